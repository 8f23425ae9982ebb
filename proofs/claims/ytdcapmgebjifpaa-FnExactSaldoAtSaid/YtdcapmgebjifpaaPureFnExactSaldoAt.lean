/- FnExactSaldoAt: for all arguments SaldoAt of the program and of the reference agree, and the arguments are left as they were. No condition beyond the statement's own. -/
import Derived.Test.YtdcapmgebjifpaaPFnExactSaldoAtx3
import Derived.Test.YtdcapmgebjifpaaCore
namespace Go.Proofs.Ytdcapmgebjifpaa.Pure
open Go.RowKit Go.Proofs.Ytdcapmgebjifpaa.PFnExactSaldoAt Go.Proofs.YtdcapmgebjifpaaW.PrintWords
set_option linter.unusedSimpArgs false
set_option linter.unusedVariables false

def sumL : List Int → Int
  | [] => 0
  | x :: r => x + sumL r
theorem sumL_bound {l : List Int} (h : ∀ x ∈ l, 0 ≤ x ∧ x ≤ 1000000) : 0 ≤ sumL l ∧ sumL l ≤ 1000000 * l.length := by
  induction l with
  | nil => simp [sumL]
  | cons x r ih =>
    have h1 := ih (fun y hy => h y (List.mem_cons_of_mem _ hy))
    have h2 := h x (by simp)
    simp only [sumL, List.length_cons]
    omega
/-- A valid body. -/
def VB (ws : List Int) (need : Int) : Prop := (1 ≤ ws.length ∧ ws.length ≤ 12) ∧ (∀ w ∈ ws, 0 ≤ w ∧ w ≤ 100) ∧ 1 ≤ need ∧ need ≤ sumL ws
instance (ws : List Int) (need : Int) : Decidable (VB ws need) := inferInstanceAs (Decidable ((1 ≤ ws.length ∧ ws.length ≤ 12) ∧ (∀ w ∈ ws, 0 ≤ w ∧ w ≤ 100) ∧ 1 ≤ need ∧ need ≤ sumL ws))
theorem dfalse {p : Prop} {i : Decidable p} (h : ¬ p) : false = @decide p i := by
  symm; rw [decide_eq_false_iff_not]; exact h
theorem dtrue {p : Prop} {i : Decidable p} (h : p) : true = @decide p i := by
  symm; rw [decide_eq_true_iff]; exact h
/-! entries -/
abbrev En := S36
def okE (e : En) : Prop := (0 ≤ e.f0 ∧ e.f0 ≤ 999) ∧ (0 ≤ e.f1 ∧ e.f1 ≤ 7) ∧ (0 ≤ e.f2 ∧ e.f2 ≤ 7) ∧ e.f1 ≠ e.f2 ∧ 1 ≤ e.f3 ∧ e.f3 ≤ 1000000
instance (e : En) : Decidable (okE e) := inferInstanceAs (Decidable ((0 ≤ e.f0 ∧ e.f0 ≤ 999) ∧ (0 ≤ e.f1 ∧ e.f1 ≤ 7) ∧ (0 ≤ e.f2 ∧ e.f2 ≤ 7) ∧ e.f1 ≠ e.f2 ∧ 1 ≤ e.f3 ∧ e.f3 ≤ 1000000))
def EV (l : List En) : Prop := l.length ≤ 40 ∧ ∀ e ∈ l, okE e
instance (l : List En) : Decidable (EV l) := inferInstanceAs (Decidable (l.length ≤ 40 ∧ ∀ e ∈ l, okE e))
def chg (a : Int) (e : En) : Int := if a = e.f2 then e.f3 else if a = e.f1 then -e.f3 else 0
theorem rdEn_at {l : List En} {i : Nat} {r : En} (h : l[i]? = some r) : rd_T36 l (i : Int) = r := by
  simp [rd_T36, List.getD_eq_getElem?_getD, h]
def came (a : Int) : List En → Int
  | [] => 0
  | e :: r => (if e.f2 = a then e.f3 else 0) + came a r
def went (a : Int) : List En → Int
  | [] => 0
  | e :: r => (if e.f1 = a then e.f3 else 0) + went a r
def sald (a day : Int) : List En → Int
  | [] => 0
  | e :: r => (if e.f0 ≤ day then chg a e else 0) + sald a day r
theorem implValidAccount_eq (a : Int) : impl_validAccount.f a = some (decide (0 ≤ a ∧ a ≤ 7)) := by
  unfold impl_validAccount.f
  by_cases h : 0 ≤ a
  · rw [if_pos h]
    congr 1
    rw [decide_eq_decide]; omega
  · rw [if_neg h]
    congr 1
    exact dfalse fun h2 => h h2.1
theorem implValidEntry_tot (e : En) : Tot (fun k => impl_validEntry.f k e.f0 e.f1 e.f2 e.f3) (fun t => t = decide (okE e)) := by
  unfold impl_validEntry.f
  have bad : ¬ okE e → Tot (fun k => impl_validEntry.j0 k true e.f0 e.f1 e.f2 e.f3) (fun t => t = decide (okE e)) := fun h =>
    Tot.step (fun _ => impl_validEntry.j0.eq_2 ..) (Tot.pos rfl (Tot.now (dfalse h)))
  refine Tot.ite (fun h => bad fun h2 => by have := h2.1; omega) (fun h => Tot.ite (fun h1 => bad fun h2 => by have := h2.1; omega) (fun h1 => Tot.ite (fun h3 => bad fun h2 => by have := h2.2.2.2.2; omega) (fun h3 => ?_)))
  refine Tot.step (fun _ => impl_validEntry.j0.eq_2 ..) ?_
  simp only [decide_eq_true_eq, implValidAccount_eq, Option.bind_some]
  refine Tot.ite (fun h4 => Tot.now (dfalse fun h2 => by have := h2.2.2.2.2; omega)) (fun h4 => Tot.ite (fun h5 => Tot.ite (fun h6 => Tot.now ?_) (fun h6 => Tot.now (dfalse fun h2 => h6 h2.2.2.1))) (fun h5 => Tot.now (dfalse fun h2 => h5 h2.2.1)))
  by_cases h7 : e.f1 = e.f2
  · have hf : decide (okE e) = false := (dfalse (p := okE e) (fun h2 => h2.2.2.2.1 h7)).symm
    rw [hf]; simp [h7]
  · rw [← dtrue (p := okE e) ⟨by omega, h5, h6, h7, by omega, by omega⟩]; simp [h7]
theorem implValidEntries_l0 {l : List En} (hl : l.length ≤ 1000000000) : ∀ (r : List En) (i : Nat), l.drop i = r →
    Tot (fun k => impl_ValidEntries.l0 k l l.length i) (fun t => t = decide (∀ x ∈ r, okE x)) := by
  intro r
  induction r with
  | nil =>
    intro i h
    have := drop_nil h
    exact Tot.step (fun _ => impl_ValidEntries.l0.eq_2 ..) (Tot.neg (by omega) (Tot.now (by simp)))
  | cons x r ih =>
    intro i h
    obtain ⟨h1, h2, h3⟩ := drop_cons h
    refine Tot.step (fun _ => impl_ValidEntries.l0.eq_2 ..) ?_
    rw [rdEn_at h3, w64s (by omega)]
    refine Tot.pos (by omega) (Tot.pos (by omega) (Tot.pos (by omega) ?_))
    refine Tot.bind (implValidEntry_tot x) ?_
    rintro _ rfl
    simp only [decide_eq_true_eq]
    refine Tot.ite (fun h4 => (ih (i + 1) h2).mono ?_) (fun h4 => Tot.now (dfalse fun h5 => h4 (h5 x (by simp))))
    rintro t rfl
    rw [decide_eq_decide]
    simp only [List.mem_cons, forall_eq_or_imp]
    exact ⟨fun h => ⟨h4, h⟩, fun h => h.2⟩
theorem implValidEntries_tot {l : List En} (hl : l.length ≤ 1000000000) : Tot (fun k => impl_ValidEntries.f k l) (fun t => t = decide (EV l)) := by
  unfold impl_ValidEntries.f
  refine Tot.ite (fun h => Tot.now (dfalse fun h2 => by have := h2.1; omega)) (fun h => (implValidEntries_l0 hl l 0 rfl).mono ?_)
  rintro t rfl
  rw [decide_eq_decide]
  exact ⟨fun h2 => ⟨by omega, h2⟩, fun h2 => h2.2⟩
theorem inRange_eq (a b c : Int) : spec_inRange.f a b c = some (decide (b ≤ a ∧ a ≤ c)) := by
  unfold spec_inRange.f
  by_cases h : b ≤ a
  · rw [if_pos h]; simp [h]
  · rw [if_neg h]; simp [h]
theorem specValidEntry_eq (e : En) : spec_validEntry.f e.f0 e.f1 e.f2 e.f3 = some (decide (okE e)) := by
  unfold spec_validEntry.f
  simp only [inRange_eq, Option.bind_some, decide_eq_true_eq]
  by_cases h1 : 0 ≤ e.f0 ∧ e.f0 ≤ 999
  · by_cases h2 : 0 ≤ e.f1 ∧ e.f1 ≤ 7
    · by_cases h3 : 0 ≤ e.f2 ∧ e.f2 ≤ 7
      · by_cases h4 : e.f1 = e.f2
        · rw [if_pos h1, if_pos h2, if_pos h3, if_pos h4]
          congr 1; exact dfalse fun h => h.2.2.2.1 h4
        · rw [if_pos h1, if_pos h2, if_pos h3, if_neg h4]
          congr 1; rw [decide_eq_decide]
          exact ⟨fun h => ⟨h1, h2, h3, h4, h⟩, fun h => h.2.2.2.2⟩
      · rw [if_pos h1, if_pos h2, if_neg h3]
        congr 1; exact dfalse fun h => h3 h.2.2.1
    · rw [if_pos h1, if_neg h2]
      congr 1; exact dfalse fun h => h2 h.2.1
  · rw [if_neg h1]
    congr 1; exact dfalse fun h => h1 h.1
theorem specValidEntries_l0 {l : List En} (hl : l.length ≤ 1000000000) : ∀ (r : List En) (i : Nat), l.drop i = r →
    Tot (fun k => spec_validEntries.l0 k l i) (fun t => t = decide (l.length ≤ 40 ∧ ∀ x ∈ r, okE x)) := by
  intro r
  induction r with
  | nil =>
    intro i h
    have := drop_nil h
    refine Tot.step (fun _ => spec_validEntries.l0.eq_2 ..) (Tot.neg (by omega) (Tot.now ?_))
    rw [decide_eq_decide]
    simp
    omega
  | cons x r ih =>
    intro i h
    obtain ⟨h1, h2, h3⟩ := drop_cons h
    refine Tot.step (fun _ => spec_validEntries.l0.eq_2 ..) ?_
    rw [rdEn_at h3, w64s (by omega), specValidEntry_eq]
    simp only [Option.bind_some, decide_eq_true_eq]
    refine Tot.pos (by omega) (Tot.pos (by omega) (Tot.ite (fun h4 => (ih (i + 1) h2).mono ?_) (fun h4 => Tot.now (dfalse fun h5 => h4 (h5.2 x (by simp))))))
    rintro t rfl
    rw [decide_eq_decide]
    simp only [List.mem_cons, forall_eq_or_imp]
    exact ⟨fun h => ⟨h.1, h4, h.2⟩, fun h => ⟨h.1, h.2.2⟩⟩
theorem specValidEntries_tot {l : List En} (hl : l.length ≤ 1000000000) : Tot (fun k => spec_validEntries.f k l) (fun t => t = decide (EV l)) := by
  unfold spec_validEntries.f
  exact specValidEntries_l0 hl l 0 rfl
theorem implChange_eq {e : En} (he : okE e) (a : Int) : impl_changeOf.f e.f0 e.f1 e.f2 e.f3 a = some (chg a e) := by
  unfold impl_changeOf.f chg
  have := he.2.2.2.2
  rw [w64 (x := -e.f3) (by omega) (by omega)]
  split
  · rfl
  · split <;> rfl
theorem chg_bound {e : En} (he : okE e) (a : Int) : -1000000 ≤ chg a e ∧ chg a e ≤ 1000000 := by
  have := he.2.2.2.2
  unfold chg
  split
  · omega
  · split <;> omega
theorem implSaldoAt_l0 {l : List En} {a day : Int} (h : EV l) : ∀ (r : List En) (i : Nat) (x : Int), l.drop i = r → -(1000000 * i) ≤ x → x ≤ 1000000 * i →
    Tot (fun k => impl_SaldoAt.l0 k a day x l l.length i) (fun t => t = x + sald a day r) := by
  have hl := h.1
  intro r
  induction r with
  | nil =>
    intro i x hd _ _
    have := drop_nil hd
    exact Tot.step (fun _ => impl_SaldoAt.l0.eq_2 ..) (Tot.neg (by omega) (Tot.now (by simp [sald])))
  | cons e r ih =>
    intro i x hd hx hx2
    obtain ⟨h1, h2, h3⟩ := drop_cons hd
    have he := h.2 e (List.mem_of_getElem? h3)
    have hc := chg_bound he a
    refine Tot.step (fun _ => impl_SaldoAt.l0.eq_2 ..) ?_
    rw [rdEn_at h3, w64s (by omega), implChange_eq he, sald]
    simp only [Option.bind_some]
    rw [w64 (x := x + chg a e) (by omega) (by omega)]
    refine Tot.pos (by omega) (Tot.pos (by omega) (Tot.pos (by omega) (Tot.ite (fun g => ?_) (fun g => ?_))))
    · rw [if_pos g]
      refine (ih (i + 1) _ h2 (by omega) (by omega)).mono ?_
      rintro t rfl
      rw [Int.add_assoc]
    · rw [if_neg g]
      refine (ih (i + 1) _ h2 (by omega) (by omega)).mono ?_
      rintro t rfl
      rw [Int.zero_add]
theorem specSaldoAt_l0 {l : List En} {a day : Int} (h : EV l) : ∀ (r : List En) (i : Nat) (x : Int), l.drop i = r → -(1000000 * i) ≤ x → x ≤ 1000000 * i →
    Tot (fun k => spec_SaldoAt.l0 k l a day x i) (fun t => t = x + sald a day r) := by
  have hl := h.1
  intro r
  induction r with
  | nil =>
    intro i x hd _ _
    have := drop_nil hd
    exact Tot.step (fun _ => spec_SaldoAt.l0.eq_2 ..) (Tot.neg (by omega) (Tot.now (by simp [sald])))
  | cons e r ih =>
    intro i x hd hx hx2
    obtain ⟨h1, h2, h3⟩ := drop_cons hd
    have he := h.2 e (List.mem_of_getElem? h3)
    have ha := he.2.2.2.2
    have hn := he.2.2.2.1
    refine Tot.step (fun _ => spec_SaldoAt.l0.eq_2 ..) ?_
    rw [rdEn_at h3, w64s (by omega), w64 (x := x + e.f3) (by omega) (by omega), w64 (x := x - e.f3) (by omega) (by omega), w64 (x := x + e.f3 - e.f3) (by omega) (by omega), sald, chg]
    refine Tot.pos (by omega) (Tot.pos (by omega) (Tot.ite (fun g => ?_) (fun g => Tot.ite (fun g1 => Tot.ite (fun g2 => absurd (g2.trans g1.symm) hn) (fun g2 => ?_)) (fun g1 => Tot.ite (fun g2 => ?_) (fun g2 => ?_)))))
    · rw [if_neg (by omega)]
      refine (ih (i + 1) _ h2 (by omega) (by omega)).mono ?_
      rintro t rfl
      rw [Int.zero_add]
    · rw [if_pos (by omega), if_pos g1.symm]
      refine (ih (i + 1) _ h2 (by omega) (by omega)).mono ?_
      rintro t rfl
      rw [Int.add_assoc]
    · rw [if_pos (by omega), if_neg (fun g3 => g1 g3.symm), if_pos g2.symm]
      refine (ih (i + 1) _ h2 (by omega) (by omega)).mono ?_
      rintro t rfl
      omega
    · rw [if_pos (by omega), if_neg (fun g3 => g1 g3.symm), if_neg (fun g3 => g2 g3.symm)]
      refine (ih (i + 1) _ h2 (by omega) (by omega)).mono ?_
      rintro t rfl
      rw [Int.zero_add]
theorem implSaldoAt_tot {l : List En} {a day : Int} (hl : l.length ≤ 1000000000) : Tot (fun k => impl_SaldoAt.f k l a day) (fun t => t = if EV l ∧ 0 ≤ a ∧ a ≤ 7 then sald a day l else 0) := by
  unfold impl_SaldoAt.f
  refine Tot.bind (implValidEntries_tot hl) ?_
  rintro _ rfl
  simp only [decide_eq_true_eq, implValidAccount_eq, Option.bind_some]
  refine Tot.ite (fun h => Tot.step (fun _ => impl_SaldoAt.j0.eq_2 ..) ?_) (fun h => Tot.step (fun _ => impl_SaldoAt.j0.eq_2 ..) (Tot.pos rfl ?_))
  · by_cases h2 : 0 ≤ a ∧ a ≤ 7
    · rw [if_pos ⟨h, h2⟩]
      refine Tot.neg (by simp [h2]) ((implSaldoAt_l0 h l 0 0 rfl (by omega) (by omega)).mono ?_)
      rintro t rfl
      simp
    · rw [if_neg (fun h3 => h2 h3.2)]
      exact Tot.pos (by simp; omega) (Tot.now rfl)
  · rw [if_neg (fun h3 => h h3.1)]; exact Tot.now rfl
theorem specSaldoAt_tot {l : List En} {a day : Int} (hl : l.length ≤ 1000000000) : Tot (fun k => spec_SaldoAt.f k l a day) (fun t => t = if EV l ∧ 0 ≤ a ∧ a ≤ 7 then sald a day l else 0) := by
  unfold spec_SaldoAt.f
  refine Tot.bind (specValidEntries_tot hl) ?_
  rintro _ rfl
  simp only [decide_eq_true_eq, inRange_eq, Option.bind_some]
  refine Tot.ite (fun h => Tot.step (fun _ => spec_SaldoAt.j0.eq_2 ..) ?_) (fun h => Tot.step (fun _ => spec_SaldoAt.j0.eq_2 ..) (Tot.pos rfl ?_))
  · by_cases h2 : 0 ≤ a ∧ a ≤ 7
    · rw [if_pos ⟨h, h2⟩]
      refine Tot.neg (by simp [h2]) ((specSaldoAt_l0 h l 0 0 rfl (by omega) (by omega)).mono ?_)
      rintro t rfl
      simp
    · rw [if_neg (fun h3 => h2 h3.2)]
      exact Tot.pos (by simp; omega) (Tot.now rfl)
  · rw [if_neg (fun h3 => h h3.1)]; exact Tot.now rfl
/-! the mirror of Entry -/
def convEntry (r : S110) : S36 := ⟨r.f0, r.f1, r.f2, r.f3⟩
theorem rdLEntry_at {l : List S110} {i : Nat} {r : S110} (h : l[i]? = some r) : rd_T110 l (i : Int) = r := by
  simp [rd_T110, List.getD_eq_getElem?_getD, h]
theorem rdIEntry_at {l : List S36} {i : Nat} {r : S36} (h : l[i]? = some r) : rd_T36 l (i : Int) = r := by
  simp [rd_T36, List.getD_eq_getElem?_getD, h]
theorem szEntry_eq {l : List S110} (hl : l.length ≤ maxLen) {a : Int} (ha : 0 ≤ a) (ha2 : a ≤ 1048576) : laws_szEntryS.f l a = some (if a - (l.length : Int) < 0 then -1 else a - (l.length : Int)) := by
  unfold maxLen at hl
  unfold laws_szEntryS.f
  rw [w64 (x := a - (l.length : Int)) (by omega) (by omega)]
  split <;> rfl
theorem toEntry_l0 {xs : List S110} (hl : xs.length ≤ 1000000000) : ∀ (d i : Nat), i + d = xs.length →
    Tot (fun k => laws_toEntryS.l0 k xs ((xs.take i).map convEntry ++ List.replicate d z36) i) (fun t => t = xs.map convEntry) := by
  intro d
  induction d with
  | zero =>
    intro i hi
    exact Tot.step (fun _ => laws_toEntryS.l0.eq_2 ..) (Tot.neg (by omega) (Tot.now (by rw [List.replicate_zero, List.append_nil, List.take_of_length_le (by omega)])))
  | succ d ih =>
    intro i hi
    refine Tot.step (fun _ => laws_toEntryS.l0.eq_2 ..) ?_
    have hg : xs[i]? = some xs[i] := List.getElem?_eq_getElem (by omega)
    rw [rdLEntry_at hg, w64s (by omega), Int.toNat_natCast]
    refine Tot.pos (by omega) (Tot.pos (by omega) ?_)
    refine Tot.known (F := fun k (t : Int × Int × Int × Int) => if (i : Int) < (((xs.take i).map convEntry ++ List.replicate (d + 1) z36).length : Int) then laws_toEntryS.l0 k xs (((xs.take i).map convEntry ++ List.replicate (d + 1) z36).set i (⟨t.1, t.2.1, t.2.2.1, t.2.2.2⟩ : S36)) ((i + 1 : Nat) : Int) else none) ?_
    refine Tot.pos (by rw [List.length_append, List.length_replicate, List.length_map, List.length_take]; omega) ?_
    have h := ih (i + 1) (by omega)
    rw [← set_fill_map (z := z36) (d := d) (show i < xs.length by omega)] at h
    exact h
theorem toEntry_tot {xs : List S110} (hl : xs.length ≤ 1000000000) : Tot (fun k => laws_toEntryS.f k xs) (fun t => t = xs.map convEntry) := by
  unfold laws_toEntryS.f
  refine Tot.pos (by omega) (Tot.pos (by omega) ?_)
  rw [Int.toNat_natCast]
  exact toEntry_l0 hl xs.length 0 (by omega)
theorem eqEntry_l0 {xs : List S36} (hl : xs.length ≤ 1000000000) : ∀ (d i : Nat), i + d = xs.length → Tot (fun k => laws_eqEntryS.l0 k xs xs i) (fun t => t = true) := by
  intro d
  induction d with
  | zero =>
    intro i hi
    exact Tot.step (fun _ => laws_eqEntryS.l0.eq_2 ..) (Tot.neg (by omega) (Tot.now rfl))
  | succ d ih =>
    intro i hi
    refine Tot.step (fun _ => laws_eqEntryS.l0.eq_2 ..) ?_
    have hg : xs[i]? = some xs[i] := List.getElem?_eq_getElem (by omega)
    have he : ∀ r : S36, laws_eqEntry.f r.f0 r.f1 r.f2 r.f3 r.f0 r.f1 r.f2 r.f3 = some true := fun r => by simp [laws_eqEntry.f]
    rw [rdIEntry_at hg, w64s (by omega), he]
    refine Tot.pos (by omega) (Tot.pos (by omega) (Tot.pos (by omega) ?_))
    refine Tot.known (F := fun k (t : Bool) => if t = true then laws_eqEntryS.l0 k xs xs ((i + 1 : Nat) : Int) else some false) ?_
    exact Tot.pos rfl (ih (i + 1) (by omega))
theorem eqEntry_tot {xs : List S36} (hl : xs.length ≤ 1000000000) : Tot (fun k => laws_eqEntryS.f k xs xs) (fun t => t = true) := by
  unfold laws_eqEntryS.f
  exact Tot.pos rfl (eqEntry_l0 hl xs.length 0 (by omega))

theorem FnExactSaldoAt : ∀ (l : List S110) (c d : Int), l.length ≤ maxLen → (∀ x ∈ l, (Lit.int .i64 x.f0).wf = true ∧ (Lit.int .i64 x.f1).wf = true ∧ (Lit.int .i64 x.f2).wf = true ∧ (Lit.int .i64 x.f3).wf = true) → (Lit.int .i64 c).wf = true → (Lit.int .i64 d).wf = true → ∃ k, laws_FnExactSaldoAt.f k l c d = some true := by
  intro l c d hl hw hc hd
  refine Tot.ends (g := fun k => laws_FnExactSaldoAt.f k l c d) ?_
  unfold laws_FnExactSaldoAt.f
  rw [szEntry_eq hl (by omega) (by omega)]
  by_cases h0 : (1048576 : Int) - (l.length : Int) < 0
  · rw [if_pos h0]
    simp only [Option.bind_some]
    exact Tot.pos (by omega) (Tot.now rfl)
  rw [if_neg h0]
  simp only [Option.bind_some]
  refine Tot.neg (by omega) ?_
  refine Tot.bind (toEntry_tot (by omega)) ?_
  rintro _ rfl
  have hm : (l.map convEntry).length = l.length := List.length_map _
  refine Tot.bind (specSaldoAt_tot (by omega)) ?_
  rintro _ rfl
  refine Tot.bind (toEntry_tot (by omega)) ?_
  rintro _ rfl
  refine Tot.bind (implSaldoAt_tot (by omega)) ?_
  rintro _ rfl
  refine Tot.pos rfl ?_
  refine Tot.bind (toEntry_tot (by omega)) ?_
  rintro _ rfl
  refine Tot.bind (eqEntry_tot (by omega)) ?_
  rintro _ rfl
  exact Tot.pos rfl (Tot.now rfl)
end Go.Proofs.Ytdcapmgebjifpaa.Pure
