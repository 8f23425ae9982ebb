/- FnExactUndo: for all arguments Undo of the program and of the reference agree, and memory is kept apart. No condition beyond the statement's own. -/
import Derived.Test.YtnijdifoejiafaaQFnExactUndox3
import Derived.Test.YtnijdifoejiafaaCore
namespace Go.Proofs.Ytnijdifoejiafaa.Pure
open Go.RowKit Go.Proofs.Ytnijdifoejiafaa.PFnExactUndo Go.Proofs.YtnijdifoejiafaaW.PrintWords
set_option linter.unusedSimpArgs false
set_option linter.unusedVariables false

def sumL : List Int → Int
  | [] => 0
  | x :: r => x + sumL r
theorem sumL_bound {l : List Int} (h : ∀ x ∈ l, 0 ≤ x ∧ x ≤ 1000000) : 0 ≤ sumL l ∧ sumL l ≤ 1000000 * l.length := by
  induction l with
  | nil => simp [sumL]
  | cons x r ih =>
    have h1 := ih (fun y hy => h y (List.mem_cons_of_mem _ hy))
    have h2 := h x (by simp)
    simp only [sumL, List.length_cons]
    omega
/-- A valid body. -/
def VB (ws : List Int) (need : Int) : Prop := (1 ≤ ws.length ∧ ws.length ≤ 12) ∧ (∀ w ∈ ws, 0 ≤ w ∧ w ≤ 100) ∧ 1 ≤ need ∧ need ≤ sumL ws
instance (ws : List Int) (need : Int) : Decidable (VB ws need) := inferInstanceAs (Decidable ((1 ≤ ws.length ∧ ws.length ≤ 12) ∧ (∀ w ∈ ws, 0 ≤ w ∧ w ≤ 100) ∧ 1 ≤ need ∧ need ≤ sumL ws))
theorem dfalse {p : Prop} {i : Decidable p} (h : ¬ p) : false = @decide p i := by
  symm; rw [decide_eq_false_iff_not]; exact h
theorem dtrue {p : Prop} {i : Decidable p} (h : p) : true = @decide p i := by
  symm; rw [decide_eq_true_iff]; exact h
/-! entries -/
abbrev En := S84
def okE (e : En) : Prop := (0 ≤ e.f0 ∧ e.f0 ≤ 999) ∧ (0 ≤ e.f1 ∧ e.f1 ≤ 7) ∧ (0 ≤ e.f2 ∧ e.f2 ≤ 7) ∧ e.f1 ≠ e.f2 ∧ 1 ≤ e.f3 ∧ e.f3 ≤ 1000000
instance (e : En) : Decidable (okE e) := inferInstanceAs (Decidable ((0 ≤ e.f0 ∧ e.f0 ≤ 999) ∧ (0 ≤ e.f1 ∧ e.f1 ≤ 7) ∧ (0 ≤ e.f2 ∧ e.f2 ≤ 7) ∧ e.f1 ≠ e.f2 ∧ 1 ≤ e.f3 ∧ e.f3 ≤ 1000000))
def EV (l : List En) : Prop := l.length ≤ 40 ∧ ∀ e ∈ l, okE e
instance (l : List En) : Decidable (EV l) := inferInstanceAs (Decidable (l.length ≤ 40 ∧ ∀ e ∈ l, okE e))
def chg (a : Int) (e : En) : Int := if a = e.f2 then e.f3 else if a = e.f1 then -e.f3 else 0
theorem rdEn_at {l : List En} {i : Nat} {r : En} (h : l[i]? = some r) : rd_T84 l (i : Int) = r := by
  simp [rd_T84, List.getD_eq_getElem?_getD, h]
def came (a : Int) : List En → Int
  | [] => 0
  | e :: r => (if e.f2 = a then e.f3 else 0) + came a r
def went (a : Int) : List En → Int
  | [] => 0
  | e :: r => (if e.f1 = a then e.f3 else 0) + went a r
def sald (a day : Int) : List En → Int
  | [] => 0
  | e :: r => (if e.f0 ≤ day then chg a e else 0) + sald a day r
theorem implValidAccount_eq (a : Int) : impl_validAccount.f a = some (decide (0 ≤ a ∧ a ≤ 7)) := by
  unfold impl_validAccount.f
  by_cases h : 0 ≤ a
  · rw [if_pos h]
    congr 1
    rw [decide_eq_decide]; omega
  · rw [if_neg h]
    congr 1
    exact dfalse fun h2 => h h2.1
theorem implValidEntry_tot (e : En) : Tot (fun k => impl_validEntry.f k e.f0 e.f1 e.f2 e.f3) (fun t => t = decide (okE e)) := by
  unfold impl_validEntry.f
  have bad : ¬ okE e → Tot (fun k => impl_validEntry.j0 k true e.f0 e.f1 e.f2 e.f3) (fun t => t = decide (okE e)) := fun h =>
    Tot.step (fun _ => impl_validEntry.j0.eq_2 ..) (Tot.pos rfl (Tot.now (dfalse h)))
  refine Tot.ite (fun h => bad fun h2 => by have := h2.1; omega) (fun h => Tot.ite (fun h1 => bad fun h2 => by have := h2.1; omega) (fun h1 => Tot.ite (fun h3 => bad fun h2 => by have := h2.2.2.2.2; omega) (fun h3 => ?_)))
  refine Tot.step (fun _ => impl_validEntry.j0.eq_2 ..) ?_
  simp only [decide_eq_true_eq, implValidAccount_eq, Option.bind_some]
  refine Tot.ite (fun h4 => Tot.now (dfalse fun h2 => by have := h2.2.2.2.2; omega)) (fun h4 => Tot.ite (fun h5 => Tot.ite (fun h6 => Tot.now ?_) (fun h6 => Tot.now (dfalse fun h2 => h6 h2.2.2.1))) (fun h5 => Tot.now (dfalse fun h2 => h5 h2.2.1)))
  by_cases h7 : e.f1 = e.f2
  · have hf : decide (okE e) = false := (dfalse (p := okE e) (fun h2 => h2.2.2.2.1 h7)).symm
    rw [hf]; simp [h7]
  · rw [← dtrue (p := okE e) ⟨by omega, h5, h6, h7, by omega, by omega⟩]; simp [h7]
theorem implValidEntries_l0 {l : List En} (hl : l.length ≤ 1000000000) : ∀ (r : List En) (i : Nat), l.drop i = r →
    Tot (fun k => impl_ValidEntries.l0 k l l.length i) (fun t => t = decide (∀ x ∈ r, okE x)) := by
  intro r
  induction r with
  | nil =>
    intro i h
    have := drop_nil h
    exact Tot.step (fun _ => impl_ValidEntries.l0.eq_2 ..) (Tot.neg (by omega) (Tot.now (by simp)))
  | cons x r ih =>
    intro i h
    obtain ⟨h1, h2, h3⟩ := drop_cons h
    refine Tot.step (fun _ => impl_ValidEntries.l0.eq_2 ..) ?_
    rw [rdEn_at h3, w64s (by omega)]
    refine Tot.pos (by omega) (Tot.pos (by omega) (Tot.pos (by omega) ?_))
    refine Tot.bind (implValidEntry_tot x) ?_
    rintro _ rfl
    simp only [decide_eq_true_eq]
    refine Tot.ite (fun h4 => (ih (i + 1) h2).mono ?_) (fun h4 => Tot.now (dfalse fun h5 => h4 (h5 x (by simp))))
    rintro t rfl
    rw [decide_eq_decide]
    simp only [List.mem_cons, forall_eq_or_imp]
    exact ⟨fun h => ⟨h4, h⟩, fun h => h.2⟩
theorem implValidEntries_tot {l : List En} (hl : l.length ≤ 1000000000) : Tot (fun k => impl_ValidEntries.f k l) (fun t => t = decide (EV l)) := by
  unfold impl_ValidEntries.f
  refine Tot.ite (fun h => Tot.now (dfalse fun h2 => by have := h2.1; omega)) (fun h => (implValidEntries_l0 hl l 0 rfl).mono ?_)
  rintro t rfl
  rw [decide_eq_decide]
  exact ⟨fun h2 => ⟨by omega, h2⟩, fun h2 => h2.2⟩
theorem inRange_eq (a b c : Int) : spec_inRange.f a b c = some (decide (b ≤ a ∧ a ≤ c)) := by
  unfold spec_inRange.f
  by_cases h : b ≤ a
  · rw [if_pos h]; simp [h]
  · rw [if_neg h]; simp [h]
theorem specValidEntry_eq (e : En) : spec_validEntry.f e.f0 e.f1 e.f2 e.f3 = some (decide (okE e)) := by
  unfold spec_validEntry.f
  simp only [inRange_eq, Option.bind_some, decide_eq_true_eq]
  by_cases h1 : 0 ≤ e.f0 ∧ e.f0 ≤ 999
  · by_cases h2 : 0 ≤ e.f1 ∧ e.f1 ≤ 7
    · by_cases h3 : 0 ≤ e.f2 ∧ e.f2 ≤ 7
      · by_cases h4 : e.f1 = e.f2
        · rw [if_pos h1, if_pos h2, if_pos h3, if_pos h4]
          congr 1; exact dfalse fun h => h.2.2.2.1 h4
        · rw [if_pos h1, if_pos h2, if_pos h3, if_neg h4]
          congr 1; rw [decide_eq_decide]
          exact ⟨fun h => ⟨h1, h2, h3, h4, h⟩, fun h => h.2.2.2.2⟩
      · rw [if_pos h1, if_pos h2, if_neg h3]
        congr 1; exact dfalse fun h => h3 h.2.2.1
    · rw [if_pos h1, if_neg h2]
      congr 1; exact dfalse fun h => h2 h.2.1
  · rw [if_neg h1]
    congr 1; exact dfalse fun h => h1 h.1
theorem specValidEntries_l0 {l : List En} (hl : l.length ≤ 1000000000) : ∀ (r : List En) (i : Nat), l.drop i = r →
    Tot (fun k => spec_validEntries.l0 k l i) (fun t => t = decide (l.length ≤ 40 ∧ ∀ x ∈ r, okE x)) := by
  intro r
  induction r with
  | nil =>
    intro i h
    have := drop_nil h
    refine Tot.step (fun _ => spec_validEntries.l0.eq_2 ..) (Tot.neg (by omega) (Tot.now ?_))
    rw [decide_eq_decide]
    simp
    omega
  | cons x r ih =>
    intro i h
    obtain ⟨h1, h2, h3⟩ := drop_cons h
    refine Tot.step (fun _ => spec_validEntries.l0.eq_2 ..) ?_
    rw [rdEn_at h3, w64s (by omega), specValidEntry_eq]
    simp only [Option.bind_some, decide_eq_true_eq]
    refine Tot.pos (by omega) (Tot.pos (by omega) (Tot.ite (fun h4 => (ih (i + 1) h2).mono ?_) (fun h4 => Tot.now (dfalse fun h5 => h4 (h5.2 x (by simp))))))
    rintro t rfl
    rw [decide_eq_decide]
    simp only [List.mem_cons, forall_eq_or_imp]
    exact ⟨fun h => ⟨h.1, h4, h.2⟩, fun h => ⟨h.1, h.2.2⟩⟩
theorem specValidEntries_tot {l : List En} (hl : l.length ≤ 1000000000) : Tot (fun k => spec_validEntries.f k l) (fun t => t = decide (EV l)) := by
  unfold spec_validEntries.f
  exact specValidEntries_l0 hl l 0 rfl
/-! the list that undoes a list -/
def Und (l : List En) : List En := (l.map impl_Undo.swp).reverse
theorem und_len (l : List En) : (Und l).length = l.length := by simp [Und]
theorem und_cons (x : En) (r : List En) : Und (x :: r) = Und r ++ [impl_Undo.swp x] := by simp [Und]
theorem swp_ok {e : En} (h : okE e) : okE (impl_Undo.swp e) := ⟨h.1, h.2.2.1, h.2.1, fun h2 => h.2.2.2.1 h2.symm, h.2.2.2.2⟩
theorem und_EV {l : List En} (h : EV l) : EV (Und l) := by
  refine ⟨by rw [und_len]; exact h.1, fun e he => ?_⟩
  unfold Und at he
  rw [List.mem_reverse, List.mem_map] at he
  obtain ⟨x, hx, rfl⟩ := he
  exact swp_ok (h.2 x hx)
theorem und_und (l : List En) : Und (Und l) = l := by
  unfold Und
  rw [List.map_reverse, List.reverse_reverse, List.map_map]
  have : (impl_Undo.swp ∘ impl_Undo.swp : En → En) = id := rfl
  rw [this, List.map_id]
theorem implUndo_tot {l : List En} (hl : l.length ≤ 1000000000) : Tot (fun k => impl_Undo.f k l) (fun t => t = if EV l then Und l else []) := by
  unfold impl_Undo.f
  refine Tot.bind (implValidEntries_tot hl) ?_
  rintro _ rfl
  by_cases h : EV l
  · rw [if_pos h]
    have := h.1
    exact Tot.pos (decide_eq_true h) (Tot.pos (by omega) (Tot.now rfl))
  · rw [if_neg h]
    exact Tot.neg (by simpa using h) (Tot.now rfl)
theorem specUndo_l0 {l : List En} (hl : l.length ≤ 1000000000) : ∀ (m : Nat), m ≤ l.length → Tot (fun k => spec_Undo.l0 k l (Und (l.drop m)) ((m : Int) - 1)) (fun t => t = Und l) := by
  intro m
  induction m with
  | zero =>
    intro _
    exact Tot.step (fun _ => spec_Undo.l0.eq_2 ..) (Tot.neg (by omega) (Tot.now rfl))
  | succ m ih =>
    intro hm
    have hg : l[m]? = some l[m] := List.getElem?_eq_getElem (by omega)
    refine Tot.step (fun _ => spec_Undo.l0.eq_2 ..) ?_
    have e : ((m + 1 : Nat) : Int) - 1 = (m : Int) := by omega
    rw [e, rdEn_at hg, w64 (x := (m : Int) - 1) (by omega) (by omega)]
    refine Tot.pos (by omega) (Tot.pos (by omega) (Tot.pos (by omega) (Tot.pos (by rw [und_len, List.length_drop]; omega) ?_)))
    have h := ih (by omega)
    rw [List.drop_eq_getElem_cons (show m < l.length by omega), und_cons] at h
    exact h
theorem specUndo_tot {l : List En} (hl : l.length ≤ 1000000000) : Tot (fun k => spec_Undo.f k l) (fun t => t = if EV l then Und l else []) := by
  unfold spec_Undo.f
  refine Tot.bind (specValidEntries_tot hl) ?_
  rintro _ rfl
  by_cases h : EV l
  · rw [if_pos h]
    refine Tot.pos (decide_eq_true h) ?_
    have h2 := specUndo_l0 hl l.length (Nat.le_refl _)
    rw [List.drop_length] at h2
    rw [w64 (x := (l.length : Int) - 1) (by omega) (by omega)]
    exact h2
  · rw [if_neg h]
    exact Tot.neg (by simpa using h) (Tot.now rfl)
theorem undOr_len (l : List En) : (if EV l then Und l else []).length ≤ l.length := by
  split
  · rw [und_len]; exact Nat.le_refl _
  · simp
/-! the mirror of Entry -/
def convEntry (r : S86) : S84 := ⟨r.f0, r.f1, r.f2, r.f3⟩
theorem rdLEntry_at {l : List S86} {i : Nat} {r : S86} (h : l[i]? = some r) : rd_T86 l (i : Int) = r := by
  simp [rd_T86, List.getD_eq_getElem?_getD, h]
theorem rdIEntry_at {l : List S84} {i : Nat} {r : S84} (h : l[i]? = some r) : rd_T84 l (i : Int) = r := by
  simp [rd_T84, List.getD_eq_getElem?_getD, h]
theorem szEntry_eq {l : List S86} (hl : l.length ≤ maxLen) {a : Int} (ha : 0 ≤ a) (ha2 : a ≤ 1048576) : laws_szEntryS.f l a = some (if a - (l.length : Int) < 0 then -1 else a - (l.length : Int)) := by
  unfold maxLen at hl
  unfold laws_szEntryS.f
  rw [w64 (x := a - (l.length : Int)) (by omega) (by omega)]
  split <;> rfl
theorem toEntry_l0 {xs : List S86} (hl : xs.length ≤ 1000000000) : ∀ (d i : Nat), i + d = xs.length →
    Tot (fun k => laws_toEntryS.l0 k xs ((xs.take i).map convEntry ++ List.replicate d z84) i) (fun t => t = xs.map convEntry) := by
  intro d
  induction d with
  | zero =>
    intro i hi
    exact Tot.step (fun _ => laws_toEntryS.l0.eq_2 ..) (Tot.neg (by omega) (Tot.now (by rw [List.replicate_zero, List.append_nil, List.take_of_length_le (by omega)])))
  | succ d ih =>
    intro i hi
    refine Tot.step (fun _ => laws_toEntryS.l0.eq_2 ..) ?_
    have hg : xs[i]? = some xs[i] := List.getElem?_eq_getElem (by omega)
    rw [rdLEntry_at hg, w64s (by omega), Int.toNat_natCast]
    refine Tot.pos (by omega) (Tot.pos (by omega) ?_)
    refine Tot.known (F := fun k (t : Int × Int × Int × Int) => if (i : Int) < (((xs.take i).map convEntry ++ List.replicate (d + 1) z84).length : Int) then laws_toEntryS.l0 k xs (((xs.take i).map convEntry ++ List.replicate (d + 1) z84).set i (⟨t.1, t.2.1, t.2.2.1, t.2.2.2⟩ : S84)) ((i + 1 : Nat) : Int) else none) ?_
    refine Tot.pos (by rw [List.length_append, List.length_replicate, List.length_map, List.length_take]; omega) ?_
    have h := ih (i + 1) (by omega)
    rw [← set_fill_map (z := z84) (d := d) (show i < xs.length by omega)] at h
    exact h
theorem toEntry_tot {xs : List S86} (hl : xs.length ≤ 1000000000) : Tot (fun k => laws_toEntryS.f k xs) (fun t => t = xs.map convEntry) := by
  unfold laws_toEntryS.f
  refine Tot.pos (by omega) (Tot.pos (by omega) ?_)
  rw [Int.toNat_natCast]
  exact toEntry_l0 hl xs.length 0 (by omega)
theorem eqEntry_l0 {xs : List S84} (hl : xs.length ≤ 1000000000) : ∀ (d i : Nat), i + d = xs.length → Tot (fun k => laws_eqEntryS.l0 k xs xs i) (fun t => t = true) := by
  intro d
  induction d with
  | zero =>
    intro i hi
    exact Tot.step (fun _ => laws_eqEntryS.l0.eq_2 ..) (Tot.neg (by omega) (Tot.now rfl))
  | succ d ih =>
    intro i hi
    refine Tot.step (fun _ => laws_eqEntryS.l0.eq_2 ..) ?_
    have hg : xs[i]? = some xs[i] := List.getElem?_eq_getElem (by omega)
    have he : ∀ r : S84, laws_eqEntry.f r.f0 r.f1 r.f2 r.f3 r.f0 r.f1 r.f2 r.f3 = some true := fun r => by simp [laws_eqEntry.f]
    rw [rdIEntry_at hg, w64s (by omega), he]
    refine Tot.pos (by omega) (Tot.pos (by omega) (Tot.pos (by omega) ?_))
    refine Tot.known (F := fun k (t : Bool) => if t = true then laws_eqEntryS.l0 k xs xs ((i + 1 : Nat) : Int) else some false) ?_
    exact Tot.pos rfl (ih (i + 1) (by omega))
theorem eqEntry_tot {xs : List S84} (hl : xs.length ≤ 1000000000) : Tot (fun k => laws_eqEntryS.f k xs xs) (fun t => t = true) := by
  unfold laws_eqEntryS.f
  exact Tot.pos rfl (eqEntry_l0 hl xs.length 0 (by omega))

def rampE (m : Int) : Nat → List En
  | 0 => []
  | n + 1 => ⟨m, m + 1, m + 1 + 1, m + 1 + 1 + 1⟩ :: rampE (m + 1 + 1 + 1 + 1) n
theorem rampE_length (m : Int) (n : Nat) : (rampE m n).length = n := by
  induction n generalizing m with
  | zero => rfl
  | succ n ih => simp [rampE, ih]
theorem rdEn_set {l : List En} {i : Nat} {v : En} (h : i < l.length) : rd_T84 (l.set i v) (i : Int) = v := rdEn_at (by simp [h])
theorem markEntry_l0 : ∀ (d i : Nat) (xs : List En) (m : Int), xs.length ≤ 1000000000 → 0 ≤ m → m + 4 * d ≤ 1000000000000 → i + d = xs.length →
    Tot (fun k => laws_markEntryS.l0 k xs m i) (fun t => t = (m + 4 * d, xs.take i ++ rampE m d)) := by
  intro d
  induction d with
  | zero =>
    intro i xs m hl hm hm2 hi
    refine Tot.step (fun _ => laws_markEntryS.l0.eq_2 ..) (Tot.neg (by omega) (Tot.now ?_))
    rw [List.take_of_length_le (by omega)]
    simp [rampE]
  | succ d ih =>
    intro i xs m hl hm hm2 hi
    have hlt : i < xs.length := by omega
    refine Tot.step (fun _ => laws_markEntryS.l0.eq_2 ..) ?_
    rw [w64s (by omega), w64 (x := m + 1) (by omega) (by omega), w64 (x := m + 1 + 1) (by omega) (by omega), w64 (x := m + 1 + 1 + 1) (by omega) (by omega), w64 (x := m + 1 + 1 + 1 + 1) (by omega) (by omega)]
    refine Tot.pos (by omega) (Tot.pos (by omega) (Tot.known (Tot.known (Tot.known ?_))))
    simp only [Int.toNat_natCast, List.set_set, rdEn_set hlt]
    refine (ih (i + 1) _ (m + 1 + 1 + 1 + 1) (by simp only [List.length_set]; exact hl) (by omega) (by omega) (by simp only [List.length_set]; omega)).mono ?_
    rintro t rfl
    rw [take_set_succ hlt]
    simp only [rampE, List.append_assoc, List.singleton_append, Prod.mk.injEq, and_true]
    omega
theorem markEntry_tot {xs : List En} (hl : xs.length ≤ 1000000000) : Tot (fun k => laws_markEntryS.f k xs 1) (fun t => t = (1 + 4 * (xs.length : Int), rampE 1 xs.length)) := by
  unfold laws_markEntryS.f
  refine (markEntry_l0 xs.length 0 xs 1 hl (by omega) (by omega) (by omega)).mono ?_
  rintro t rfl
  simp
theorem heldEntry_l0 {xs : List En} (hl : xs.length ≤ 1000000000) : ∀ (d i : Nat) (m : Int), 0 ≤ m → m + 4 * d ≤ 1000000000000 → i + d = xs.length → xs.drop i = rampE m d →
    Tot (fun k => laws_heldEntryS.l0 k xs m i) (fun t => t = m + 4 * d) := by
  intro d
  induction d with
  | zero =>
    intro i m hm hm2 hi h
    exact Tot.step (fun _ => laws_heldEntryS.l0.eq_2 ..) (Tot.neg (by omega) (Tot.now (by simp)))
  | succ d ih =>
    intro i m hm hm2 hi h
    rw [rampE] at h
    obtain ⟨h3, h4, h5⟩ := drop_cons h
    refine Tot.step (fun _ => laws_heldEntryS.l0.eq_2 ..) ?_
    rw [w64s (by omega), w64 (x := m + 1) (by omega) (by omega), w64 (x := m + 1 + 1) (by omega) (by omega), w64 (x := m + 1 + 1 + 1) (by omega) (by omega), w64 (x := m + 1 + 1 + 1 + 1) (by omega) (by omega), rdEn_at h5]
    refine Tot.pos (by omega) (Tot.pos (by omega) (Tot.pos rfl (Tot.pos rfl (Tot.pos rfl (Tot.pos rfl ((ih (i + 1) (m + 1 + 1 + 1 + 1) (by omega) (by omega) (by omega) h4).mono ?_))))))
    rintro t rfl
    omega
theorem heldEntry_tot {n : Nat} (hl : n ≤ 1000000000) : Tot (fun k => laws_heldEntryS.f k (rampE 1 n) 1) (fun t => t = 1 + 4 * (n : Int)) := by
  unfold laws_heldEntryS.f
  have h := rampE_length 1 n
  exact heldEntry_l0 (by omega) n 0 1 (by omega) (by omega) (by omega) rfl
theorem FnExactUndo : ∀ (l : List S86), l.length ≤ maxLen → (∀ x ∈ l, (Lit.int .i64 x.f0).wf = true ∧ (Lit.int .i64 x.f1).wf = true ∧ (Lit.int .i64 x.f2).wf = true ∧ (Lit.int .i64 x.f3).wf = true) → ∃ k, laws_FnExactUndo.f k l = some true := by
  intro l hl hw
  refine Tot.ends (g := fun k => laws_FnExactUndo.f k l) ?_
  unfold laws_FnExactUndo.f
  rw [szEntry_eq hl (by omega) (by omega)]
  by_cases h0 : (1048576 : Int) - (l.length : Int) < 0
  · rw [if_pos h0]
    simp only [Option.bind_some]
    exact Tot.pos (by omega) (Tot.now rfl)
  rw [if_neg h0]
  simp only [Option.bind_some]
  refine Tot.neg (by omega) ?_
  refine Tot.bind (toEntry_tot (by omega)) ?_
  rintro _ rfl
  have hm : (l.map convEntry).length = l.length := List.length_map _
  have hh : (if EV (l.map convEntry) then Und (l.map convEntry) else []).length ≤ 1000000000 := by
    have := undOr_len (l.map convEntry)
    omega
  refine Tot.bind (specUndo_tot (by omega)) ?_
  rintro _ rfl
  refine Tot.bind (toEntry_tot (by omega)) ?_
  rintro _ rfl
  refine Tot.bind (implUndo_tot (by omega)) ?_
  rintro _ rfl
  have hagain := implUndo_tot (l := l.map convEntry) (by omega)
  generalize (if EV (l.map convEntry) then Und (l.map convEntry) else []) = hs at hh hagain ⊢
  refine Tot.bind (eqEntry_tot (by omega)) ?_
  rintro _ rfl
  refine Tot.pos rfl ?_
  refine Tot.bind (toEntry_tot (by omega)) ?_
  rintro _ rfl
  refine Tot.bind (eqEntry_tot (by omega)) ?_
  rintro _ rfl
  refine Tot.pos rfl ?_
  refine Tot.bind (markEntry_tot (by omega)) ?_
  rintro _ rfl
  refine Tot.neg (by simp only; omega) ?_
  refine Tot.bind (eqEntry_tot (by omega)) ?_
  rintro _ rfl
  refine Tot.step (fun _ => laws_FnExactUndo.j0.eq_2 ..) (Tot.neg (by simp) ?_)
  refine Tot.bind (markEntry_tot (by omega)) ?_
  rintro _ rfl
  dsimp only
  refine Tot.bind (heldEntry_tot (by omega)) ?_
  rintro _ rfl
  refine Tot.neg (by omega) (Tot.pos rfl ?_)
  refine Tot.bind (toEntry_tot (by omega)) ?_
  rintro _ rfl
  refine Tot.bind hagain ?_
  rintro _ rfl
  refine Tot.bind (eqEntry_tot (by omega)) ?_
  rintro _ rfl
  refine Tot.pos rfl ?_
  refine Tot.bind (heldEntry_tot (by omega)) ?_
  rintro _ rfl
  exact Tot.neg (by omega) (Tot.pos rfl (Tot.now rfl))
end Go.Proofs.Ytnijdifoejiafaa.Pure
