/- FnExactFirstBelow: for all arguments FirstBelow of the program and of the reference agree, and the arguments are left as they were. No condition beyond the statement's own. -/
import Derived.Test.YtdcapmgebjifpaaQFnExactFirstBelowx4
import Derived.Test.YtdcapmgebjifpaaCore
namespace Go.Proofs.Ytdcapmgebjifpaa.Pure
open Go.RowKit Go.Proofs.Ytdcapmgebjifpaa.PFnExactFirstBelow Go.Proofs.YtdcapmgebjifpaaW.PrintWords
set_option linter.unusedSimpArgs false
set_option linter.unusedVariables false

def sumL : List Int → Int
  | [] => 0
  | x :: r => x + sumL r
theorem sumL_bound {l : List Int} (h : ∀ x ∈ l, 0 ≤ x ∧ x ≤ 1000000) : 0 ≤ sumL l ∧ sumL l ≤ 1000000 * l.length := by
  induction l with
  | nil => simp [sumL]
  | cons x r ih =>
    have h1 := ih (fun y hy => h y (List.mem_cons_of_mem _ hy))
    have h2 := h x (by simp)
    simp only [sumL, List.length_cons]
    omega
/-- A valid body. -/
def VB (ws : List Int) (need : Int) : Prop := (1 ≤ ws.length ∧ ws.length ≤ 12) ∧ (∀ w ∈ ws, 0 ≤ w ∧ w ≤ 100) ∧ 1 ≤ need ∧ need ≤ sumL ws
instance (ws : List Int) (need : Int) : Decidable (VB ws need) := inferInstanceAs (Decidable ((1 ≤ ws.length ∧ ws.length ≤ 12) ∧ (∀ w ∈ ws, 0 ≤ w ∧ w ≤ 100) ∧ 1 ≤ need ∧ need ≤ sumL ws))
theorem dfalse {p : Prop} {i : Decidable p} (h : ¬ p) : false = @decide p i := by
  symm; rw [decide_eq_false_iff_not]; exact h
theorem dtrue {p : Prop} {i : Decidable p} (h : p) : true = @decide p i := by
  symm; rw [decide_eq_true_iff]; exact h
/-! entries -/
abbrev En := S36
def okE (e : En) : Prop := (0 ≤ e.f0 ∧ e.f0 ≤ 999) ∧ (0 ≤ e.f1 ∧ e.f1 ≤ 7) ∧ (0 ≤ e.f2 ∧ e.f2 ≤ 7) ∧ e.f1 ≠ e.f2 ∧ 1 ≤ e.f3 ∧ e.f3 ≤ 1000000
instance (e : En) : Decidable (okE e) := inferInstanceAs (Decidable ((0 ≤ e.f0 ∧ e.f0 ≤ 999) ∧ (0 ≤ e.f1 ∧ e.f1 ≤ 7) ∧ (0 ≤ e.f2 ∧ e.f2 ≤ 7) ∧ e.f1 ≠ e.f2 ∧ 1 ≤ e.f3 ∧ e.f3 ≤ 1000000))
def EV (l : List En) : Prop := l.length ≤ 40 ∧ ∀ e ∈ l, okE e
instance (l : List En) : Decidable (EV l) := inferInstanceAs (Decidable (l.length ≤ 40 ∧ ∀ e ∈ l, okE e))
def chg (a : Int) (e : En) : Int := if a = e.f2 then e.f3 else if a = e.f1 then -e.f3 else 0
theorem rdEn_at {l : List En} {i : Nat} {r : En} (h : l[i]? = some r) : rd_T36 l (i : Int) = r := by
  simp [rd_T36, List.getD_eq_getElem?_getD, h]
def came (a : Int) : List En → Int
  | [] => 0
  | e :: r => (if e.f2 = a then e.f3 else 0) + came a r
def went (a : Int) : List En → Int
  | [] => 0
  | e :: r => (if e.f1 = a then e.f3 else 0) + went a r
def sald (a day : Int) : List En → Int
  | [] => 0
  | e :: r => (if e.f0 ≤ day then chg a e else 0) + sald a day r
theorem implValidAccount_eq (a : Int) : impl_validAccount.f a = some (decide (0 ≤ a ∧ a ≤ 7)) := by
  unfold impl_validAccount.f
  by_cases h : 0 ≤ a
  · rw [if_pos h]
    congr 1
    rw [decide_eq_decide]; omega
  · rw [if_neg h]
    congr 1
    exact dfalse fun h2 => h h2.1
theorem implValidEntry_tot (e : En) : Tot (fun k => impl_validEntry.f k e.f0 e.f1 e.f2 e.f3) (fun t => t = decide (okE e)) := by
  unfold impl_validEntry.f
  have bad : ¬ okE e → Tot (fun k => impl_validEntry.j0 k true e.f0 e.f1 e.f2 e.f3) (fun t => t = decide (okE e)) := fun h =>
    Tot.step (fun _ => impl_validEntry.j0.eq_2 ..) (Tot.pos rfl (Tot.now (dfalse h)))
  refine Tot.ite (fun h => bad fun h2 => by have := h2.1; omega) (fun h => Tot.ite (fun h1 => bad fun h2 => by have := h2.1; omega) (fun h1 => Tot.ite (fun h3 => bad fun h2 => by have := h2.2.2.2.2; omega) (fun h3 => ?_)))
  refine Tot.step (fun _ => impl_validEntry.j0.eq_2 ..) ?_
  simp only [decide_eq_true_eq, implValidAccount_eq, Option.bind_some]
  refine Tot.ite (fun h4 => Tot.now (dfalse fun h2 => by have := h2.2.2.2.2; omega)) (fun h4 => Tot.ite (fun h5 => Tot.ite (fun h6 => Tot.now ?_) (fun h6 => Tot.now (dfalse fun h2 => h6 h2.2.2.1))) (fun h5 => Tot.now (dfalse fun h2 => h5 h2.2.1)))
  by_cases h7 : e.f1 = e.f2
  · have hf : decide (okE e) = false := (dfalse (p := okE e) (fun h2 => h2.2.2.2.1 h7)).symm
    rw [hf]; simp [h7]
  · rw [← dtrue (p := okE e) ⟨by omega, h5, h6, h7, by omega, by omega⟩]; simp [h7]
theorem implValidEntries_l0 {l : List En} (hl : l.length ≤ 1000000000) : ∀ (r : List En) (i : Nat), l.drop i = r →
    Tot (fun k => impl_ValidEntries.l0 k l l.length i) (fun t => t = decide (∀ x ∈ r, okE x)) := by
  intro r
  induction r with
  | nil =>
    intro i h
    have := drop_nil h
    exact Tot.step (fun _ => impl_ValidEntries.l0.eq_2 ..) (Tot.neg (by omega) (Tot.now (by simp)))
  | cons x r ih =>
    intro i h
    obtain ⟨h1, h2, h3⟩ := drop_cons h
    refine Tot.step (fun _ => impl_ValidEntries.l0.eq_2 ..) ?_
    rw [rdEn_at h3, w64s (by omega)]
    refine Tot.pos (by omega) (Tot.pos (by omega) (Tot.pos (by omega) ?_))
    refine Tot.bind (implValidEntry_tot x) ?_
    rintro _ rfl
    simp only [decide_eq_true_eq]
    refine Tot.ite (fun h4 => (ih (i + 1) h2).mono ?_) (fun h4 => Tot.now (dfalse fun h5 => h4 (h5 x (by simp))))
    rintro t rfl
    rw [decide_eq_decide]
    simp only [List.mem_cons, forall_eq_or_imp]
    exact ⟨fun h => ⟨h4, h⟩, fun h => h.2⟩
theorem implValidEntries_tot {l : List En} (hl : l.length ≤ 1000000000) : Tot (fun k => impl_ValidEntries.f k l) (fun t => t = decide (EV l)) := by
  unfold impl_ValidEntries.f
  refine Tot.ite (fun h => Tot.now (dfalse fun h2 => by have := h2.1; omega)) (fun h => (implValidEntries_l0 hl l 0 rfl).mono ?_)
  rintro t rfl
  rw [decide_eq_decide]
  exact ⟨fun h2 => ⟨by omega, h2⟩, fun h2 => h2.2⟩
/-! what each account has -/
def net1 (a : Int) : List En → Int
  | [] => 0
  | e :: r => chg a e + net1 a r
theorem net1_snoc (a : Int) (p : List En) (e : En) : net1 a (p ++ [e]) = net1 a p + chg a e := by
  induction p with
  | nil => simp [net1]
  | cons x p ih => rw [List.cons_append, net1, net1, ih]; omega
theorem net1_bound {a : Int} {p : List En} (h : ∀ e ∈ p, okE e) : -(1000000 * p.length) ≤ net1 a p ∧ net1 a p ≤ 1000000 * p.length := by
  induction p with
  | nil => simp [net1]
  | cons x p ih =>
    have h1 := ih (fun e he => h e (List.mem_cons_of_mem _ he))
    have h2 := h x (by simp)
    have h3 := h2.2.2.2.2
    have h4 : -1000000 ≤ chg a x ∧ chg a x ≤ 1000000 := by
      unfold chg; split
      · omega
      · split <;> omega
    rw [net1, List.length_cons]
    omega
def salA (p : List En) : List Int := (List.range 8).map (fun v : Nat => net1 v p)
theorem salA_len (p : List En) : (salA p).length = 8 := by simp [salA]
theorem rd_salA {p : List En} {w : Int} (h0 : 0 ≤ w) (h1 : w ≤ 7) : rd (salA p) w = net1 w p := by
  have hlt : w.toNat < (salA p).length := by rw [salA_len]; omega
  have e : (w.toNat : Int) = w := by omega
  have h2 := rd_get hlt
  rw [e] at h2
  rw [h2]
  simp only [salA, List.getElem_map, List.getElem_range, e]
theorem rd_set_ne {xs : List Int} {i : Nat} {y w : Int} (h : w.toNat ≠ i) : rd (xs.set i y) w = rd xs w := by
  simp [rd, List.getD_eq_getElem?_getD, List.getElem?_set_ne (Ne.symm h)]
theorem salA_set2 {p : List En} {e : En} {u v : Int} (hu : 0 ≤ u ∧ u ≤ 7) (hv : 0 ≤ v ∧ v ≤ 7) (h : ∀ w : Int, w ≠ u → w ≠ v → chg w e = 0) :
    ((salA p).set u.toNat (net1 u p + chg u e)).set v.toNat (net1 v p + chg v e) = salA (p ++ [e]) := by
  refine List.ext_getElem (by simp [salA]) (fun i h1 h2 => ?_)
  have hi : i < 8 := by simpa [salA] using h2
  rw [List.getElem_set, List.getElem_set]
  simp only [salA, List.getElem_map, List.getElem_range]
  rw [net1_snoc]
  by_cases g : v.toNat = i
  · rw [if_pos g, show (i : Int) = v from by omega]
  · rw [if_neg g]
    by_cases g2 : u.toNat = i
    · rw [if_pos g2, show (i : Int) = u from by omega]
    · rw [if_neg g2, h (i : Int) (by omega) (by omega), Int.add_zero]
theorem chg_1 {e : En} (he : okE e) : chg e.f1 e = -e.f3 := by
  unfold chg; rw [if_neg he.2.2.2.1, if_pos rfl]
theorem chg_2 {e : En} : chg e.f2 e = e.f3 := by
  unfold chg; rw [if_pos rfl]
theorem chg_0 {e : En} {w : Int} (h1 : w ≠ e.f1) (h2 : w ≠ e.f2) : chg w e = 0 := by
  unfold chg; rw [if_neg h2, if_neg h1]
theorem salA_nil : salA [] = List.replicate 8 0 := by decide
theorem inRange_eq (a b c : Int) : spec_inRange.f a b c = some (decide (b ≤ a ∧ a ≤ c)) := by
  unfold spec_inRange.f
  by_cases h : b ≤ a
  · rw [if_pos h]; simp [h]
  · rw [if_neg h]; simp [h]
theorem specValidEntry_eq (e : En) : spec_validEntry.f e.f0 e.f1 e.f2 e.f3 = some (decide (okE e)) := by
  unfold spec_validEntry.f
  simp only [inRange_eq, Option.bind_some, decide_eq_true_eq]
  by_cases h1 : 0 ≤ e.f0 ∧ e.f0 ≤ 999
  · by_cases h2 : 0 ≤ e.f1 ∧ e.f1 ≤ 7
    · by_cases h3 : 0 ≤ e.f2 ∧ e.f2 ≤ 7
      · by_cases h4 : e.f1 = e.f2
        · rw [if_pos h1, if_pos h2, if_pos h3, if_pos h4]
          congr 1; exact dfalse fun h => h.2.2.2.1 h4
        · rw [if_pos h1, if_pos h2, if_pos h3, if_neg h4]
          congr 1; rw [decide_eq_decide]
          exact ⟨fun h => ⟨h1, h2, h3, h4, h⟩, fun h => h.2.2.2.2⟩
      · rw [if_pos h1, if_pos h2, if_neg h3]
        congr 1; exact dfalse fun h => h3 h.2.2.1
    · rw [if_pos h1, if_neg h2]
      congr 1; exact dfalse fun h => h2 h.2.1
  · rw [if_neg h1]
    congr 1; exact dfalse fun h => h1 h.1
theorem specValidEntries_l0 {l : List En} (hl : l.length ≤ 1000000000) : ∀ (r : List En) (i : Nat), l.drop i = r →
    Tot (fun k => spec_validEntries.l0 k l i) (fun t => t = decide (l.length ≤ 40 ∧ ∀ x ∈ r, okE x)) := by
  intro r
  induction r with
  | nil =>
    intro i h
    have := drop_nil h
    refine Tot.step (fun _ => spec_validEntries.l0.eq_2 ..) (Tot.neg (by omega) (Tot.now ?_))
    rw [decide_eq_decide]
    simp
    omega
  | cons x r ih =>
    intro i h
    obtain ⟨h1, h2, h3⟩ := drop_cons h
    refine Tot.step (fun _ => spec_validEntries.l0.eq_2 ..) ?_
    rw [rdEn_at h3, w64s (by omega), specValidEntry_eq]
    simp only [Option.bind_some, decide_eq_true_eq]
    refine Tot.pos (by omega) (Tot.pos (by omega) (Tot.ite (fun h4 => (ih (i + 1) h2).mono ?_) (fun h4 => Tot.now (dfalse fun h5 => h4 (h5.2 x (by simp))))))
    rintro t rfl
    rw [decide_eq_decide]
    simp only [List.mem_cons, forall_eq_or_imp]
    exact ⟨fun h => ⟨h.1, h4, h.2⟩, fun h => ⟨h.1, h.2.2⟩⟩
theorem specValidEntries_tot {l : List En} (hl : l.length ≤ 1000000000) : Tot (fun k => spec_validEntries.f k l) (fun t => t = decide (EV l)) := by
  unfold spec_validEntries.f
  exact specValidEntries_l0 hl l 0 rfl
theorem specSaldi_l0 {l : List En} (h : EV l) : ∀ (r : List En) (i : Nat), l.drop i = r →
    Tot (fun k => spec_saldi.l0 k l (salA (l.take i)) i) (fun t => t = salA l) := by
  have hl := h.1
  intro r
  induction r with
  | nil =>
    intro i hd
    have := drop_nil hd
    refine Tot.step (fun _ => spec_saldi.l0.eq_2 ..) (Tot.neg (by omega) (Tot.now ?_))
    rw [List.take_of_length_le this]
  | cons e r ih =>
    intro i hd
    obtain ⟨h1, h2, h3⟩ := drop_cons hd
    have he := h.2 e (List.mem_of_getElem? h3)
    have hp : ∀ x ∈ l.take i, okE x := fun x hx => h.2 x (List.mem_of_mem_take hx)
    have hlen : (l.take i).length ≤ 40 := by rw [List.length_take]; omega
    have b1 := net1_bound (a := e.f1) hp
    have b2 := net1_bound (a := e.f2) hp
    obtain ⟨_, g1, g2, g3, g4, g5⟩ := he
    have he := h.2 e (List.mem_of_getElem? h3)
    refine Tot.step (fun _ => spec_saldi.l0.eq_2 ..) ?_
    rw [rdEn_at h3, w64s (by omega), salA_len, rd_salA g1.1 g1.2, w64 (x := net1 e.f1 (l.take i) - e.f3) (by omega) (by omega)]
    refine Tot.pos (by omega) (Tot.pos (by omega) (Tot.pos (by omega) (Tot.pos (by omega) (Tot.known (Tot.pos (by omega) (Tot.pos (by omega) ?_))))))
    rw [rd_set_ne (by omega), rd_salA g2.1 g2.2, w64 (x := net1 e.f2 (l.take i) + e.f3) (by omega) (by omega)]
    have e3 := salA_set2 (p := l.take i) (e := e) g1 g2 (fun w a b => chg_0 a b)
    rw [chg_1 he, chg_2, ← Int.sub_eq_add_neg] at e3
    rw [e3]
    have e4 : l.take i ++ [e] = l.take (i + 1) := by
      rw [List.take_add_one, h3]; rfl
    rw [e4]
    exact ih (i + 1) h2
theorem specsaldi_tot {l : List En} (h : EV l) : Tot (fun k => spec_saldi.f k l) (fun t => t = salA l) := by
  unfold spec_saldi.f
  refine Tot.pos (by omega) ?_
  have := specSaldi_l0 h l 0 rfl
  rw [List.take_zero, salA_nil] at this
  exact this
theorem implChange_eq {e : En} (he : okE e) (a : Int) : impl_changeOf.f e.f0 e.f1 e.f2 e.f3 a = some (chg a e) := by
  unfold impl_changeOf.f chg
  have := he.2.2.2.2
  rw [w64 (x := -e.f3) (by omega) (by omega)]
  split
  · rfl
  · split <;> rfl
theorem chg_bound {e : En} (he : okE e) (a : Int) : -1000000 ≤ chg a e ∧ chg a e ≤ 1000000 := by
  have := he.2.2.2.2
  unfold chg
  split
  · omega
  · split <;> omega
def fb (a low acc : Int) : List En → Int → Int
  | [], _ => -1
  | e :: r, i => if acc + chg a e < low then i else fb a low (acc + chg a e) r (i + 1)
theorem take_one {l : List En} {i : Nat} {e : En} (h : l[i]? = some e) : l.take (i + 1) = l.take i ++ [e] := by
  rw [List.take_add_one, h]; rfl
theorem implFirst_l0 {l : List En} {a low : Int} (h : EV l) : ∀ (r : List En) (i : Nat), l.drop i = r →
    Tot (fun k => impl_FirstBelow.l0 k a low (net1 a (l.take i)) l l.length i) (fun t => t = fb a low (net1 a (l.take i)) r i) := by
  have hl := h.1
  intro r
  induction r with
  | nil =>
    intro i hd
    have := drop_nil hd
    exact Tot.step (fun _ => impl_FirstBelow.l0.eq_2 ..) (Tot.neg (by omega) (Tot.now rfl))
  | cons e r ih =>
    intro i hd
    obtain ⟨h1, h2, h3⟩ := drop_cons hd
    have he := h.2 e (List.mem_of_getElem? h3)
    have hp : ∀ x ∈ l.take (i + 1), okE x := fun x hx => h.2 x (List.mem_of_mem_take hx)
    have hlen : (l.take (i + 1)).length ≤ 40 := by rw [List.length_take]; omega
    have b1 := net1_bound (a := a) hp
    have e1 : net1 a (l.take (i + 1)) = net1 a (l.take i) + chg a e := by rw [take_one h3, net1_snoc]
    refine Tot.step (fun _ => impl_FirstBelow.l0.eq_2 ..) ?_
    rw [rdEn_at h3, w64s (by omega), implChange_eq he]
    refine Tot.pos (by omega) (Tot.pos (by omega) (Tot.pos (by omega) (Tot.known ?_)))
    rw [← e1, w64 (by omega) (by omega), fb, ← e1]
    refine Tot.ite (fun g => ?_) (fun g => ?_)
    · rw [if_pos g]; exact Tot.now rfl
    · rw [if_neg g]; exact ih (i + 1) h2
theorem specFirst_l0 {l : List En} {a low : Int} (h : EV l) (ha : 0 ≤ a ∧ a ≤ 7) : ∀ (r : List En) (i : Nat), l.drop i = r →
    Tot (fun k => spec_FirstBelow.l0 k l a low i) (fun t => t = fb a low (net1 a (l.take i)) r i) := by
  have hl := h.1
  intro r
  induction r with
  | nil =>
    intro i hd
    have := drop_nil hd
    exact Tot.step (fun _ => spec_FirstBelow.l0.eq_2 ..) (Tot.neg (by omega) (Tot.now rfl))
  | cons e r ih =>
    intro i hd
    obtain ⟨h1, h2, h3⟩ := drop_cons hd
    have hp : EV (l.take (i + 1)) := ⟨by rw [List.length_take]; omega, fun x hx => h.2 x (List.mem_of_mem_take hx)⟩
    have e1 : net1 a (l.take (i + 1)) = net1 a (l.take i) + chg a e := by rw [take_one h3, net1_snoc]
    refine Tot.step (fun _ => spec_FirstBelow.l0.eq_2 ..) ?_
    rw [w64s (by omega), Int.toNat_natCast]
    refine Tot.pos (by omega) (Tot.pos (by omega) (Tot.pos (by omega) (Tot.bind (specsaldi_tot hp) ?_)))
    rintro _ rfl
    rw [salA_len, rd_salA ha.1 ha.2, fb, ← e1]
    refine Tot.pos ha.1 (Tot.pos (by omega) (Tot.ite (fun g => ?_) (fun g => ?_)))
    · rw [if_pos g]; exact Tot.now rfl
    · rw [if_neg g]; exact ih (i + 1) h2
theorem implFirst_tot {l : List En} {a low : Int} (hl : l.length ≤ 1000000000) : Tot (fun k => impl_FirstBelow.f k l a low) (fun t => t = if EV l ∧ 0 ≤ a ∧ a ≤ 7 then fb a low 0 l 0 else -1) := by
  unfold impl_FirstBelow.f
  refine Tot.bind (implValidEntries_tot hl) ?_
  rintro _ rfl
  rw [implValidAccount_eq]
  have bad : ¬ (EV l ∧ 0 ≤ a ∧ a ≤ 7) → Tot (fun k => impl_FirstBelow.j0 k l a low true) (fun t => t = if EV l ∧ 0 ≤ a ∧ a ≤ 7 then fb a low 0 l 0 else -1) := by
    intro h
    rw [if_neg h]
    exact Tot.step (fun _ => impl_FirstBelow.j0.eq_2 ..) (Tot.pos rfl (Tot.now rfl))
  refine Tot.ite (fun h1 => Tot.known ?_) (fun h1 => bad fun h => h1 (decide_eq_true h.1))
  by_cases h2 : 0 ≤ a ∧ a ≤ 7
  · rw [decide_eq_true h2, if_pos ⟨of_decide_eq_true h1, h2⟩]
    exact Tot.step (fun _ => impl_FirstBelow.j0.eq_2 ..) (Tot.neg (by decide) (implFirst_l0 (of_decide_eq_true h1) l 0 rfl))
  · rw [decide_eq_false h2]
    exact bad fun h => h2 h.2
theorem specFirst_tot {l : List En} {a low : Int} (hl : l.length ≤ 1000000000) : Tot (fun k => spec_FirstBelow.f k l a low) (fun t => t = if EV l ∧ 0 ≤ a ∧ a ≤ 7 then fb a low 0 l 0 else -1) := by
  unfold spec_FirstBelow.f
  refine Tot.bind (specValidEntries_tot hl) ?_
  rintro _ rfl
  rw [inRange_eq]
  have bad : ¬ (EV l ∧ 0 ≤ a ∧ a ≤ 7) → Tot (fun k => spec_FirstBelow.j0 k l a low true) (fun t => t = if EV l ∧ 0 ≤ a ∧ a ≤ 7 then fb a low 0 l 0 else -1) := by
    intro h
    rw [if_neg h]
    exact Tot.step (fun _ => spec_FirstBelow.j0.eq_2 ..) (Tot.pos rfl (Tot.now rfl))
  refine Tot.ite (fun h1 => Tot.known ?_) (fun h1 => bad fun h => h1 (decide_eq_true h.1))
  by_cases h2 : 0 ≤ a ∧ a ≤ 7
  · rw [decide_eq_true h2, if_pos ⟨of_decide_eq_true h1, h2⟩]
    exact Tot.step (fun _ => spec_FirstBelow.j0.eq_2 ..) (Tot.neg (by decide) (specFirst_l0 (of_decide_eq_true h1) h2 l 0 rfl))
  · rw [decide_eq_false h2]
    exact bad fun h => h2 h.2
/-! the mirror of Entry -/
def convEntry (r : S110) : S36 := ⟨r.f0, r.f1, r.f2, r.f3⟩
theorem rdLEntry_at {l : List S110} {i : Nat} {r : S110} (h : l[i]? = some r) : rd_T110 l (i : Int) = r := by
  simp [rd_T110, List.getD_eq_getElem?_getD, h]
theorem rdIEntry_at {l : List S36} {i : Nat} {r : S36} (h : l[i]? = some r) : rd_T36 l (i : Int) = r := by
  simp [rd_T36, List.getD_eq_getElem?_getD, h]
theorem szEntry_eq {l : List S110} (hl : l.length ≤ maxLen) {a : Int} (ha : 0 ≤ a) (ha2 : a ≤ 1048576) : laws_szEntryS.f l a = some (if a - (l.length : Int) < 0 then -1 else a - (l.length : Int)) := by
  unfold maxLen at hl
  unfold laws_szEntryS.f
  rw [w64 (x := a - (l.length : Int)) (by omega) (by omega)]
  split <;> rfl
theorem toEntry_l0 {xs : List S110} (hl : xs.length ≤ 1000000000) : ∀ (d i : Nat), i + d = xs.length →
    Tot (fun k => laws_toEntryS.l0 k xs ((xs.take i).map convEntry ++ List.replicate d z36) i) (fun t => t = xs.map convEntry) := by
  intro d
  induction d with
  | zero =>
    intro i hi
    exact Tot.step (fun _ => laws_toEntryS.l0.eq_2 ..) (Tot.neg (by omega) (Tot.now (by rw [List.replicate_zero, List.append_nil, List.take_of_length_le (by omega)])))
  | succ d ih =>
    intro i hi
    refine Tot.step (fun _ => laws_toEntryS.l0.eq_2 ..) ?_
    have hg : xs[i]? = some xs[i] := List.getElem?_eq_getElem (by omega)
    rw [rdLEntry_at hg, w64s (by omega), Int.toNat_natCast]
    refine Tot.pos (by omega) (Tot.pos (by omega) ?_)
    refine Tot.known (F := fun k (t : Int × Int × Int × Int) => if (i : Int) < (((xs.take i).map convEntry ++ List.replicate (d + 1) z36).length : Int) then laws_toEntryS.l0 k xs (((xs.take i).map convEntry ++ List.replicate (d + 1) z36).set i (⟨t.1, t.2.1, t.2.2.1, t.2.2.2⟩ : S36)) ((i + 1 : Nat) : Int) else none) ?_
    refine Tot.pos (by rw [List.length_append, List.length_replicate, List.length_map, List.length_take]; omega) ?_
    have h := ih (i + 1) (by omega)
    rw [← set_fill_map (z := z36) (d := d) (show i < xs.length by omega)] at h
    exact h
theorem toEntry_tot {xs : List S110} (hl : xs.length ≤ 1000000000) : Tot (fun k => laws_toEntryS.f k xs) (fun t => t = xs.map convEntry) := by
  unfold laws_toEntryS.f
  refine Tot.pos (by omega) (Tot.pos (by omega) ?_)
  rw [Int.toNat_natCast]
  exact toEntry_l0 hl xs.length 0 (by omega)
theorem eqEntry_l0 {xs : List S36} (hl : xs.length ≤ 1000000000) : ∀ (d i : Nat), i + d = xs.length → Tot (fun k => laws_eqEntryS.l0 k xs xs i) (fun t => t = true) := by
  intro d
  induction d with
  | zero =>
    intro i hi
    exact Tot.step (fun _ => laws_eqEntryS.l0.eq_2 ..) (Tot.neg (by omega) (Tot.now rfl))
  | succ d ih =>
    intro i hi
    refine Tot.step (fun _ => laws_eqEntryS.l0.eq_2 ..) ?_
    have hg : xs[i]? = some xs[i] := List.getElem?_eq_getElem (by omega)
    have he : ∀ r : S36, laws_eqEntry.f r.f0 r.f1 r.f2 r.f3 r.f0 r.f1 r.f2 r.f3 = some true := fun r => by simp [laws_eqEntry.f]
    rw [rdIEntry_at hg, w64s (by omega), he]
    refine Tot.pos (by omega) (Tot.pos (by omega) (Tot.pos (by omega) ?_))
    refine Tot.known (F := fun k (t : Bool) => if t = true then laws_eqEntryS.l0 k xs xs ((i + 1 : Nat) : Int) else some false) ?_
    exact Tot.pos rfl (ih (i + 1) (by omega))
theorem eqEntry_tot {xs : List S36} (hl : xs.length ≤ 1000000000) : Tot (fun k => laws_eqEntryS.f k xs xs) (fun t => t = true) := by
  unfold laws_eqEntryS.f
  exact Tot.pos rfl (eqEntry_l0 hl xs.length 0 (by omega))

theorem FnExactFirstBelow : ∀ (l : List S110) (c d : Int), l.length ≤ maxLen → (∀ x ∈ l, (Lit.int .i64 x.f0).wf = true ∧ (Lit.int .i64 x.f1).wf = true ∧ (Lit.int .i64 x.f2).wf = true ∧ (Lit.int .i64 x.f3).wf = true) → (Lit.int .i64 c).wf = true → (Lit.int .i64 d).wf = true → ∃ k, laws_FnExactFirstBelow.f k l c d = some true := by
  intro l c d hl hw hc hd
  refine Tot.ends (g := fun k => laws_FnExactFirstBelow.f k l c d) ?_
  unfold laws_FnExactFirstBelow.f
  rw [szEntry_eq hl (by omega) (by omega)]
  by_cases h0 : (1048576 : Int) - (l.length : Int) < 0
  · rw [if_pos h0]
    simp only [Option.bind_some]
    exact Tot.pos (by omega) (Tot.now rfl)
  rw [if_neg h0]
  simp only [Option.bind_some]
  refine Tot.neg (by omega) ?_
  refine Tot.bind (toEntry_tot (by omega)) ?_
  rintro _ rfl
  have hm : (l.map convEntry).length = l.length := List.length_map _
  refine Tot.bind (specFirst_tot (by omega)) ?_
  rintro _ rfl
  refine Tot.bind (toEntry_tot (by omega)) ?_
  rintro _ rfl
  refine Tot.bind (implFirst_tot (by omega)) ?_
  rintro _ rfl
  refine Tot.pos rfl ?_
  refine Tot.bind (toEntry_tot (by omega)) ?_
  rintro _ rfl
  refine Tot.bind (eqEntry_tot (by omega)) ?_
  rintro _ rfl
  exact Tot.pos rfl (Tot.now rfl)
end Go.Proofs.Ytdcapmgebjifpaa.Pure
