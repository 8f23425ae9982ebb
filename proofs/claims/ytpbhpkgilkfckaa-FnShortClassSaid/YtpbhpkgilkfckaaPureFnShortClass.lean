/- FnShortClass: for every code, all claims of classes before the short class get all, some of it not, and those of later ones nothing. No condition beyond the statement's own. -/
import Derived.Test.YtpbhpkgilkfckaaQFnShortClassx5
import Derived.Test.YtpbhpkgilkfckaaCore
namespace Go.Proofs.Ytpbhpkgilkfckaa.Pure
open Go.RowKit Go.Proofs.Ytpbhpkgilkfckaa.PFnShortClass Go.Proofs.YtpbhpkgilkfckaaW.PrintWords
set_option linter.unusedSimpArgs false
set_option linter.unusedVariables false

def sumL : List Int → Int
  | [] => 0
  | x :: r => x + sumL r
theorem sumL_bound {l : List Int} (h : ∀ x ∈ l, 0 ≤ x ∧ x ≤ 1000000) : 0 ≤ sumL l ∧ sumL l ≤ 1000000 * l.length := by
  induction l with
  | nil => simp [sumL]
  | cons x r ih =>
    have h1 := ih (fun y hy => h y (List.mem_cons_of_mem _ hy))
    have h2 := h x (by simp)
    simp only [sumL, List.length_cons]
    omega
/-- A valid body. -/
def VB (ws : List Int) (need : Int) : Prop := (1 ≤ ws.length ∧ ws.length ≤ 12) ∧ (∀ w ∈ ws, 0 ≤ w ∧ w ≤ 100) ∧ 1 ≤ need ∧ need ≤ sumL ws
instance (ws : List Int) (need : Int) : Decidable (VB ws need) := inferInstanceAs (Decidable ((1 ≤ ws.length ∧ ws.length ≤ 12) ∧ (∀ w ∈ ws, 0 ≤ w ∧ w ≤ 100) ∧ 1 ≤ need ∧ need ≤ sumL ws))
theorem dfalse {p : Prop} {i : Decidable p} (h : ¬ p) : false = @decide p i := by
  symm; rw [decide_eq_false_iff_not]; exact h
theorem dtrue {p : Prop} {i : Decidable p} (h : p) : true = @decide p i := by
  symm; rw [decide_eq_true_iff]; exact h
theorem inRange_eq (a b c : Int) : spec_inRange.f a b c = some (decide (b ≤ a ∧ a ≤ c)) := by
  unfold spec_inRange.f
  by_cases h : b ≤ a
  · rw [if_pos h]; simp [h]
  · rw [if_neg h]; simp [h]
theorem Tot.bindv {α β : Type} {g : Nat → Option α} {F : Nat → α → Option β} {v : α} {Q : β → Prop} (h : Tot g (fun t => t = v)) (h2 : Tot (fun k => F k v) Q) : Tot (fun k => (g k).bind (F k)) Q :=
  Tot.bind h (fun a ha => by rw [ha]; exact h2)
/-! claims -/
abbrev Cl := S49
def okC (e : Cl) : Prop := (0 ≤ e.f0 ∧ e.f0 ≤ 4) ∧ 0 ≤ e.f1 ∧ e.f1 ≤ 100000
instance (e : Cl) : Decidable (okC e) := inferInstanceAs (Decidable ((0 ≤ e.f0 ∧ e.f0 ≤ 4) ∧ 0 ≤ e.f1 ∧ e.f1 ≤ 100000))
def VC (l : List Cl) : Prop := l.length ≤ 20 ∧ ∀ e ∈ l, okC e
instance (l : List Cl) : Decidable (VC l) := inferInstanceAs (Decidable (l.length ≤ 20 ∧ ∀ e ∈ l, okC e))
theorem rdCl_at {l : List Cl} {i : Nat} {r : Cl} (h : l[i]? = some r) : rd_T49 l (i : Int) = r := by
  simp [rd_T49, List.getD_eq_getElem?_getD, h]
/-- The sum of g over the claims of class c. -/
def gs (c : Int) (g : Cl → Int) : List Cl → Int
  | [] => 0
  | e :: r => (if e.f0 = c then g e else 0) + gs c g r
def cs (c : Int) (l : List Cl) : Int := gs c (fun e => e.f1) l
theorem gs_range {c : Int} {g : Cl → Int} {B : Int} (hB : 0 ≤ B) : ∀ {l : List Cl}, (∀ e ∈ l, 0 ≤ g e ∧ g e ≤ B) → 0 ≤ gs c g l ∧ gs c g l ≤ B * l.length := by
  intro l
  induction l with
  | nil => intro _; simp [gs]
  | cons e r ih =>
    intro h
    have h1 := ih (fun x hx => h x (List.mem_cons_of_mem _ hx))
    have h2 := h e (by simp)
    rw [gs, List.length_cons, Int.natCast_add, Int.mul_add]
    split <;> omega
theorem cs_range {c : Int} {l : List Cl} (h : VC l) : 0 ≤ cs c l ∧ cs c l ≤ 2000000 := by
  have := gs_range (c := c) (g := fun e : Cl => e.f1) (B := 100000) (by omega) (l := l) (fun e he => (h.2 e he).2)
  have hl := h.1
  unfold cs
  omega
theorem implVC_l0 {l : List Cl} (hl : l.length ≤ 1000000000) : ∀ (r : List Cl) (i : Nat), l.drop i = r →
    Tot (fun k => impl_ValidClaims.l0 k l l.length i) (fun t => t = decide (∀ x ∈ r, okC x)) := by
  intro r
  induction r with
  | nil =>
    intro i h
    have := drop_nil h
    exact Tot.step (fun _ => impl_ValidClaims.l0.eq_2 ..) (Tot.neg (by omega) (Tot.now (by simp)))
  | cons x r ih =>
    intro i h
    obtain ⟨h1, h2, h3⟩ := drop_cons h
    refine Tot.step (fun _ => impl_ValidClaims.l0.eq_2 ..) ?_
    rw [rdCl_at h3, w64s (by omega)]
    refine Tot.pos (by omega) (Tot.pos (by omega) (Tot.pos (by omega) ?_))
    refine Tot.ite (fun c => Tot.now (dfalse fun h5 => by have := (h5 x (by simp)).1; omega)) (fun c1 => Tot.ite (fun c => Tot.now (dfalse fun h5 => by have := (h5 x (by simp)).1; omega)) (fun c2 => Tot.ite (fun c => Tot.now (dfalse fun h5 => by have := (h5 x (by simp)).2; omega)) (fun c3 => Tot.ite (fun c => Tot.now (dfalse fun h5 => by have := (h5 x (by simp)).2; omega)) (fun c4 => (ih (i + 1) h2).mono ?_))))
    rintro t rfl
    rw [decide_eq_decide]
    simp only [List.mem_cons, forall_eq_or_imp]
    exact ⟨fun h => ⟨⟨by omega, by omega⟩, h⟩, fun h => h.2⟩
theorem implVC_tot {l : List Cl} (hl : l.length ≤ 1000000000) : Tot (fun k => impl_ValidClaims.f k l) (fun t => t = decide (VC l)) := by
  unfold impl_ValidClaims.f
  refine Tot.ite (fun h => Tot.now (dfalse fun h2 => by have := h2.1; omega)) (fun h => (implVC_l0 hl l 0 rfl).mono ?_)
  rintro t rfl
  rw [decide_eq_decide]
  exact ⟨fun h2 => ⟨by omega, h2⟩, fun h2 => h2.2⟩
theorem specVC_l0 {l : List Cl} (hl : l.length ≤ 1000000000) : ∀ (r : List Cl) (i : Nat), l.drop i = r →
    Tot (fun k => spec_validClaims.l0 k l i) (fun t => t = decide (l.length ≤ 20 ∧ ∀ x ∈ r, okC x)) := by
  intro r
  induction r with
  | nil =>
    intro i h
    have := drop_nil h
    refine Tot.step (fun _ => spec_validClaims.l0.eq_2 ..) (Tot.neg (by omega) (Tot.now ?_))
    rw [decide_eq_decide]
    exact ⟨fun h => ⟨by omega, fun x hx => by cases hx⟩, fun h => by omega⟩
  | cons x r ih =>
    intro i h
    obtain ⟨h1, h2, h3⟩ := drop_cons h
    refine Tot.step (fun _ => spec_validClaims.l0.eq_2 ..) ?_
    rw [rdCl_at h3, w64s (by omega), inRange_eq, inRange_eq]
    refine Tot.pos (by omega) (Tot.pos (by omega) (Tot.known (Tot.ite (fun c => Tot.known (Tot.ite (fun c2 => (ih (i + 1) h2).mono ?_) (fun c2 => Tot.now (dfalse fun h5 => c2 (decide_eq_true (h5.2 x (by simp)).2))))) (fun c => Tot.now (dfalse fun h5 => c (decide_eq_true (h5.2 x (by simp)).1))))))
    rintro t rfl
    have c := of_decide_eq_true c
    have c2 := of_decide_eq_true c2
    rw [decide_eq_decide]
    simp only [List.mem_cons, forall_eq_or_imp]
    exact ⟨fun h => ⟨h.1, ⟨c, c2⟩, h.2⟩, fun h => ⟨h.1, h.2.2⟩⟩
theorem specVC_tot {l : List Cl} (hl : l.length ≤ 1000000000) : Tot (fun k => spec_validClaims.f k l) (fun t => t = decide (VC l)) := by
  unfold spec_validClaims.f
  exact specVC_l0 hl l 0 rfl
theorem specCS_l0 {l : List Cl} {c : Int} (h : VC l) : ∀ (r : List Cl) (i : Nat) (acc : Int), l.drop i = r → 0 ≤ acc → acc ≤ 100000 * i →
    Tot (fun k => spec_classSum.l0 k l c acc i) (fun t => t = acc + cs c r) := by
  have hl := h.1
  intro r
  induction r with
  | nil =>
    intro i acc hd _ _
    have := drop_nil hd
    exact Tot.step (fun _ => spec_classSum.l0.eq_2 ..) (Tot.neg (by omega) (Tot.now (by simp [cs, gs])))
  | cons x r ih =>
    intro i acc hd h0 h1
    obtain ⟨g1, g2, g3⟩ := drop_cons hd
    have hx := (h.2 x (List.mem_of_getElem? g3)).2
    refine Tot.step (fun _ => spec_classSum.l0.eq_2 ..) ?_
    rw [rdCl_at g3, w64s (by omega), w64 (x := acc + x.f1) (by omega) (by omega)]
    refine Tot.pos (by omega) (Tot.pos (by omega) (Tot.ite (fun c1 => (ih (i + 1) _ g2 (by omega) (by omega)).mono ?_) (fun c1 => (ih (i + 1) _ g2 (by omega) (by omega)).mono ?_)))
    · rintro t rfl
      unfold cs
      rw [gs, if_pos c1]; omega
    · rintro t rfl
      unfold cs
      rw [gs, if_neg c1]; omega
theorem specCS_tot {l : List Cl} {c : Int} (h : VC l) : Tot (fun k => spec_classSum.f k l c) (fun t => t = cs c l) := by
  unfold spec_classSum.f
  refine (specCS_l0 h l 0 0 rfl (by omega) (by omega)).mono ?_
  rintro t rfl
  omega
/-- The first of d classes from c on that is short of L. -/
def sc (l : List Cl) : Nat → Int → Int → Int
  | 0, _, _ => -1
  | d + 1, c, L => if cs c l > L then c else sc l d (c + 1) (L - cs c l)
theorem specShort_l0 {l : List Cl} (h : VC l) : ∀ (d : Nat) (c L : Int), c + d = 5 → 0 ≤ c → 0 ≤ L → L ≤ 1000000 →
    Tot (fun k => spec_ShortClass.l0 k l L c) (fun t => t = sc l d c L) := by
  intro d
  induction d with
  | zero =>
    intro c L hc _ _ _
    exact Tot.step (fun _ => spec_ShortClass.l0.eq_2 ..) (Tot.neg (by omega) (Tot.now (by rw [sc])))
  | succ d ih =>
    intro c L hc h0 h1 h2
    have hr := cs_range (c := c) h
    refine Tot.step (fun _ => spec_ShortClass.l0.eq_2 ..) (Tot.pos (by omega) (Tot.bindv (specCS_tot h) ?_))
    rw [sc]
    refine Tot.ite (fun c1 => Tot.now (by rw [if_pos c1])) (fun c1 => ?_)
    rw [if_neg c1, w64 (x := L - cs c l) (by omega) (by omega), w64 (x := c + 1) (by omega) (by omega)]
    exact ih (c + 1) _ (by omega) (by omega) (by omega) (by omega)
def okB (l : List Cl) (b : Int) : Prop := VC l ∧ 0 ≤ b ∧ b ≤ 1000000
instance (l : List Cl) (b : Int) : Decidable (okB l b) := inferInstanceAs (Decidable (VC l ∧ 0 ≤ b ∧ b ≤ 1000000))
/-- What ShortClass answers. -/
def short (l : List Cl) (b : Int) : Int := if okB l b then sc l 5 0 b else -2
theorem specShort_tot {l : List Cl} {b : Int} (hl : l.length ≤ 1000000000) : Tot (fun k => spec_ShortClass.f k l b) (fun t => t = short l b) := by
  unfold spec_ShortClass.f spec_validAmount.f
  have bad : ¬ okB l b → Tot (fun k => spec_ShortClass.j0 k l b true) (fun t => t = short l b) := fun h =>
    Tot.step (fun _ => spec_ShortClass.j0.eq_2 ..) (Tot.pos rfl (Tot.now (by unfold short; rw [if_neg h])))
  refine Tot.bindv (specVC_tot hl) (Tot.ite (fun h1 => ?_) (fun h1 => bad fun h => h1 (decide_eq_true h.1)))
  have h1 := of_decide_eq_true h1
  rw [inRange_eq]
  refine Tot.known ?_
  by_cases h2 : 0 ≤ b ∧ b ≤ 1000000
  · rw [decide_eq_true h2]
    refine Tot.step (fun _ => spec_ShortClass.j0.eq_2 ..) (Tot.neg (by decide) ?_)
    unfold short
    rw [if_pos ⟨h1, h2⟩]
    exact specShort_l0 h1 5 0 b (by omega) (by omega) h2.1 h2.2
  · rw [decide_eq_false h2]
    exact bad fun h => h2 h.2
/-- A claim's part, rounded down, and whether it was no whole number. -/
def fl (L S : Int) (e : Cl) : Int := e.f1 * L / S
def nz (L S : Int) (e : Cl) : Int := if e.f1 * L % S = 0 then 0 else 1
theorem fl_sum {c L S : Int} (hS : 0 < S) : ∀ (l : List Cl), S * gs c (fl L S) l ≤ L * cs c l ∧ L * cs c l ≤ S * gs c (fl L S) l + S * gs c (nz L S) l := by
  intro l
  induction l with
  | nil => simp [gs, cs]
  | cons e r ih =>
    unfold cs at ih ⊢
    rw [gs, gs, gs]
    by_cases h : e.f0 = c
    · rw [if_pos h, if_pos h, if_pos h, Int.mul_add, Int.mul_add, Int.mul_add]
      have h1 := Int.mul_ediv_add_emod (e.f1 * L) S
      have h2 := Int.emod_nonneg (e.f1 * L) (show S ≠ 0 by omega)
      have h3 := Int.emod_lt_of_pos (e.f1 * L) hS
      have h4 : L * e.f1 = e.f1 * L := Int.mul_comm _ _
      have h5 : e.f1 * L % S ≤ S * nz L S e := by
        unfold nz
        split
        · rename_i h6; rw [h6]; simp
        · rw [Int.mul_one]; omega
      have h6 : S * fl L S e = S * (e.f1 * L / S) := rfl
      omega
    · rw [if_neg h, if_neg h, if_neg h, Int.zero_add, Int.zero_add, Int.zero_add]
      exact ih
def psum (c : Int) : List Cl → List Int → Int
  | e :: r, y :: q => (if e.f0 = c then y else 0) + psum c r q
  | _, _ => 0
theorem psum_base {c : Int} {g : Cl → Int} : ∀ (l : List Cl) (p : List Int), p.length = l.length → (∀ (j : Nat) (x : Cl), l[j]? = some x → x.f0 = c → p[j]? = some (g x)) → psum c l p = gs c g l := by
  intro l
  induction l with
  | nil => intro p _ _; simp [psum, gs]
  | cons e r ih =>
    intro p hp h
    cases p with
    | nil => simp at hp
    | cons y q =>
      have h1 := ih q (by simpa using hp) (fun j x hx hc => by have := h (j + 1) x (by rw [List.getElem?_cons_succ]; exact hx) hc; rw [List.getElem?_cons_succ] at this; exact this)
      rw [psum, gs, h1]
      by_cases hc : e.f0 = c
      · have h2 := h 0 e (by simp) hc
        simp only [List.getElem?_cons_zero, Option.some.injEq] at h2
        rw [if_pos hc, if_pos hc, h2]
      · rw [if_neg hc, if_neg hc]
theorem psum_set {c : Int} : ∀ (l : List Cl) (p : List Int) (i : Nat) (x : Cl) (y : Int), l[i]? = some x → x.f0 = c → p[i]? = some y → psum c l (p.set i (y + 1)) = psum c l p + 1 := by
  intro l
  induction l with
  | nil => intro p i x y h; simp at h
  | cons e r ih =>
    intro p i x y h hc hy
    cases p with
    | nil => simp at hy
    | cons z q =>
      cases i with
      | zero =>
        simp only [List.getElem?_cons_zero, Option.some.injEq] at h hy
        rw [List.set_cons_zero, psum, psum, h, hy, if_pos hc, if_pos hc]; omega
      | succ i =>
        simp only [List.getElem?_cons_succ] at h hy
        rw [List.set_cons_succ, psum, psum, ih q i x y h hc hy]; omega
theorem psum_ge {c : Int} : ∀ (l : List Cl) (p : List Int), p.length = l.length → (∀ (j : Nat) (x : Cl) (y : Int), l[j]? = some x → x.f0 = c → p[j]? = some y → x.f1 ≤ y) → cs c l ≤ psum c l p := by
  intro l
  induction l with
  | nil => intro p _ _; simp [psum, cs, gs]
  | cons e r ih =>
    intro p hp h
    cases p with
    | nil => simp at hp
    | cons y q =>
      have h1 := ih q (by simpa using hp) (fun j x z hx hc hz => h (j + 1) x z (by rw [List.getElem?_cons_succ]; exact hx) hc (by rw [List.getElem?_cons_succ]; exact hz))
      unfold cs at h1 ⊢
      rw [psum, gs]
      by_cases hc : e.f0 = c
      · have h2 := h 0 e y (by simp) hc (by simp)
        rw [if_pos hc, if_pos hc]; omega
      · rw [if_neg hc, if_neg hc]; omega
theorem cs_zero {c : Int} : ∀ {l : List Cl}, (∀ e ∈ l, okC e) → cs c l ≤ 0 → ∀ (j : Nat) (x : Cl), l[j]? = some x → x.f0 = c → x.f1 = 0 := by
  intro l
  induction l with
  | nil => intro _ _ j x h; simp at h
  | cons e r ih =>
    intro hv hz j x h hc
    unfold cs at hz
    rw [gs] at hz
    have hr := gs_range (c := c) (g := fun e : Cl => e.f1) (B := 100000) (by omega) (l := r) (fun e he => (hv e (List.mem_cons_of_mem _ he)).2)
    have he := hv e (by simp)
    have h1 := he.2.1
    cases j with
    | zero =>
      simp only [List.getElem?_cons_zero, Option.some.injEq] at h
      rw [h] at hz h1
      rw [if_pos hc] at hz
      omega
    | succ j =>
      simp only [List.getElem?_cons_succ] at h
      refine ih (fun e he => hv e (List.mem_cons_of_mem _ he)) ?_ j x h hc
      unfold cs
      split at hz <;> omega
/-- What paying class c of the box L does. -/
def PC (l : List Cl) (c L : Int) (p0 : List Int) (t : Int × List Int) : Prop :=
  t.2.length = l.length ∧ (∀ (j : Nat) (x : Cl), l[j]? = some x → x.f0 ≠ c → t.2[j]? = p0[j]?) ∧
  (cs c l ≤ L → t.1 = L - cs c l ∧ ∀ (j : Nat) (x : Cl), l[j]? = some x → x.f0 = c → t.2[j]? = some x.f1) ∧
  (L < cs c l → t.1 = 0 ∧ (∃ (j : Nat) (x : Cl) (y : Int), l[j]? = some x ∧ x.f0 = c ∧ t.2[j]? = some y ∧ y < x.f1) ∧ (L = 0 → ∀ (j : Nat) (x : Cl), l[j]? = some x → x.f0 = c → t.2[j]? = some 0))
theorem pay_l2 {l : List Cl} {c L S : Int} (h : VC l) (hL : 0 ≤ L) (hL2 : L ≤ 1000000) (hS : S = cs c l) (hlt : L < S) {p0 : List Int} : ∀ (r : List Cl) (i : Nat) (p : List Int) (R : Int), l.drop i = r → p.length = l.length → (∀ (j : Nat) (x : Cl), l[j]? = some x → x.f0 ≠ c → p[j]? = p0[j]?) → psum c l p + R = L → 0 ≤ R → R ≤ gs c (nz L S) r → (∀ (j : Nat) (x : Cl) (y : Int), l[j]? = some x → x.f0 = c → p[j]? = some y → 0 ≤ y ∧ y ≤ 100000 + (i : Int)) → (L = 0 → R = 0 ∧ ∀ (j : Nat) (x : Cl), l[j]? = some x → x.f0 = c → p[j]? = some 0) →
    Tot (fun k => impl_payClass.l2 k c L p S false R l l.length i) (PC l c L p0) := by
  have hl := h.1
  have hcs := cs_range (c := c) h
  have fin : ∀ p : List Int, p.length = l.length → (∀ (j : Nat) (x : Cl), l[j]? = some x → x.f0 ≠ c → p[j]? = p0[j]?) → psum c l p + 0 = L → (L = 0 → ∀ (j : Nat) (x : Cl), l[j]? = some x → x.f0 = c → p[j]? = some 0) → PC l c L p0 (0, p) := by
    intro p h1 h2 h3 h4
    refine ⟨h1, h2, fun h5 => by omega, fun _ => ⟨rfl, ?_, h4⟩⟩
    refine Classical.byContradiction fun hno => ?_
    have := psum_ge l p h1 (fun j x y hx hc hy => by
      rcases Int.lt_or_le y x.f1 with h6 | h6
      · exact absurd ⟨j, x, y, hx, hc, hy, h6⟩ hno
      · exact h6)
    omega
  intro r
  induction r with
  | nil =>
    intro i p R hd h1 h2 h3 h4 h5 _ h6
    have := drop_nil hd
    rw [gs] at h5
    have e : R = 0 := by omega
    subst e
    exact Tot.step (fun _ => impl_payClass.l2.eq_2 ..) (Tot.neg (by omega) (Tot.now (fin p h1 h2 h3 (fun hz => (h6 hz).2))))
  | cons x r ih =>
    intro i p R hd h1 h2 h3 h4 h5 hb h6
    obtain ⟨g1, g2, g3⟩ := drop_cons hd
    have hx := h.2 x (List.mem_of_getElem? g3)
    have hil : i < p.length := by omega
    have hpi : p[i]? = some p[i] := List.getElem?_eq_getElem hil
    rw [gs] at h5
    have hg := gs_range (c := c) (g := nz L S) (B := 1) (by omega) (l := r) (fun e _ => by unfold nz; split <;> omega)
    have hrl : (r.length : Int) ≤ 20 := by
      have := congrArg List.length g2
      rw [List.length_drop] at this
      omega
    have hx1 : nz L S x ≤ 1 := by unfold nz; split <;> omega
    have hR20 : R ≤ 30 := by split at h5 <;> omega
    refine Tot.step (fun _ => impl_payClass.l2.eq_2 ..) (Tot.pos (by omega) (Tot.pos (by omega) (Tot.pos (by omega) (Tot.neg (by decide) (Tot.step (fun _ => impl_payClass.j3.eq_2 ..) ?_)))))
    rw [rdCl_at g3, w64s (by omega)]
    refine Tot.ite (fun hr => ?_) (fun hr => ?_)
    · have e : R = 0 := by simpa using hr
      subst e
      exact Tot.now (fin p h1 h2 h3 (fun hz => (h6 hz).2))
    · have hr : R ≠ 0 := by simpa using hr
      have hL0 : ¬ L = 0 := fun hz => hr (h6 hz).1
      have hp := Int.mul_nonneg hx.2.1 hL
      have hp2 := Int.mul_le_mul hx.2.2 hL2 hL (by omega)
      refine Tot.ite (fun hc => Tot.neg (by omega) ?_) (fun hc => ?_)
      · rw [w64 (x := x.f1 * L) (by omega) (by omega), tmod_nn hp]
        rw [if_pos hc] at h5
        refine Tot.ite (fun hm => ?_) (fun hm => Tot.pos (by omega) (Tot.pos (by omega) ?_))
        · have e : nz L S x = 0 := by unfold nz; rw [if_pos hm]
          exact ih (i + 1) p R g2 h1 h2 h3 h4 (by omega) (fun j z y hz hzc hy => by have := hb j z y hz hzc hy; omega) h6
        · have e : nz L S x = 1 := by unfold nz; rw [if_neg hm]
          have hbi := hb i x p[i] g3 hc hpi
          rw [rd_at hpi, Int.toNat_natCast, w64 (x := p[i] + 1) (by omega) (by omega), w64 (x := R - 1) (by omega) (by omega)]
          have hbs : psum c l p ≤ 1000000 := by omega
          refine ih (i + 1) _ (R - 1) g2 (by simp only [List.length_set]; exact h1) (fun j z hz hzc => ?_) ?_ (by omega) (by omega) (fun j z y hz hzc hy => ?_) (fun hz => absurd hz hL0)
          · have hij : i ≠ j := fun e => by
              subst e
              rw [g3] at hz
              injection hz with hz
              exact hzc (hz ▸ hc)
            rw [List.getElem?_set_ne hij]; exact h2 j z hz hzc
          · rw [psum_set l p i x _ g3 hc hpi]; omega
          · by_cases hij : i = j
            · subst hij
              rw [List.getElem?_set_self hil] at hy
              injection hy with hy
              omega
            · rw [List.getElem?_set_ne hij] at hy
              have := hb j z y hz hzc hy; omega
      · rw [if_neg hc] at h5
        exact ih (i + 1) p R g2 h1 h2 h3 h4 (by omega) (fun j z y hz hzc hy => by have := hb j z y hz hzc hy; omega) h6
theorem pay_l1 {l : List Cl} {c L S : Int} (h : VC l) (hL : 0 ≤ L) (hL2 : L ≤ 1000000) (hS : S = cs c l) {en : Bool} (hen : en = decide (L ≥ S)) {p0 : List Int} {base : Cl → Int} (hbase : base = fun e => if en = true then e.f1 else fl L S e) {Q : Int × List Int → Prop}
    (HN : ∀ (p : List Int), p.length = l.length → (∀ (j : Nat) (x : Cl), l[j]? = some x → x.f0 ≠ c → p[j]? = p0[j]?) → (∀ (j : Nat) (x : Cl), l[j]? = some x → x.f0 = c → p[j]? = some (base x)) → Tot (fun k => impl_payClass.l2 k c L p S en (L - gs c base l) l l.length 0) Q) :
    ∀ (r : List Cl) (i : Nat) (p : List Int) (R : Int), l.drop i = r → p.length = l.length → (∀ (j : Nat) (x : Cl), l[j]? = some x → x.f0 ≠ c → p[j]? = p0[j]?) → (∀ (j : Nat) (x : Cl), j < i → l[j]? = some x → x.f0 = c → p[j]? = some (base x)) → R - gs c base r = L - gs c base l →
    Tot (fun k => impl_payClass.l1 k l c L p S en R l l.length i) Q := by
  have hl := h.1
  have hcs := cs_range (c := c) h
  have hbr : ∀ e ∈ l, 0 ≤ base e ∧ base e ≤ 100000 := by
    intro e he
    have hx := (h.2 e he).2
    rw [hbase]
    dsimp only
    split
    · exact hx
    · rename_i hne
      have hlt : L < S := by
        rcases Int.lt_or_le L S with h1 | h1
        · exact h1
        · exact absurd (by rw [hen]; exact decide_eq_true h1) hne
      have hp := Int.mul_nonneg hx.1 hL
      have hle := Int.mul_le_mul_of_nonneg_left (show L ≤ S by omega) hx.1
      have hq := Int.ediv_le_ediv (show 0 < S by omega) hle
      rw [Int.mul_ediv_cancel _ (show S ≠ 0 by omega)] at hq
      unfold fl
      exact ⟨Int.ediv_nonneg hp (by omega), by omega⟩
  have hgl := gs_range (c := c) (g := base) (B := 100000) (by omega) (l := l) hbr
  intro r
  induction r with
  | nil =>
    intro i p R hd h1 h2 h3 h4
    have := drop_nil hd
    refine Tot.step (fun _ => impl_payClass.l1.eq_2 ..) (Tot.neg (by omega) ?_)
    rw [gs] at h4
    rw [show R = L - gs c base l by omega]
    exact HN p h1 h2 (fun j x hx hc => h3 j x (by have := (List.getElem?_eq_some_iff.1 hx).1; omega) hx hc)
  | cons x r ih =>
    intro i p R hd h1 h2 h3 h4
    obtain ⟨g1, g2, g3⟩ := drop_cons hd
    have hmem := List.mem_of_getElem? g3
    have hx := h.2 x hmem
    have hbx := hbr x hmem
    have hgr := gs_range (c := c) (g := base) (B := 100000) (by omega) (l := r) (fun e he => hbr e (by
      have : e ∈ l.drop (i + 1) := by rw [g2]; exact he
      exact List.mem_of_mem_drop this))
    have hrl : (r.length : Int) ≤ 20 := by
      have := congrArg List.length g2
      rw [List.length_drop] at this
      omega
    have hil : i < p.length := by omega
    rw [gs] at h4
    refine Tot.step (fun _ => impl_payClass.l1.eq_2 ..) (Tot.pos (by omega) (Tot.pos (by omega) (Tot.pos (by omega) ?_)))
    rw [rdCl_at g3, w64s (by omega), Int.toNat_natCast]
    have upd : ∀ (p1 : List Int), p1.length = l.length → p1[i]? = some (base x) → (∀ j, j ≠ i → p1[j]? = p[j]?) → x.f0 = c → (∀ (j : Nat) (z : Cl), l[j]? = some z → z.f0 ≠ c → p1[j]? = p0[j]?) ∧ (∀ (j : Nat) (z : Cl), j < i + 1 → l[j]? = some z → z.f0 = c → p1[j]? = some (base z)) := by
      intro p1 e1 e2 e3 hc
      refine ⟨fun j z hz hzc => ?_, fun j z hj hz hzc => ?_⟩
      · have hij : j ≠ i := fun e => by
          subst e
          rw [g3] at hz
          injection hz with hz
          exact hzc (hz ▸ hc)
        rw [e3 j hij]; exact h2 j z hz hzc
      · by_cases hij : j = i
        · subst hij
          rw [g3] at hz
          injection hz with hz
          rw [e2, hz]
        · rw [e3 j hij]; exact h3 j z (by omega) hz hzc
    refine Tot.ite (fun hc => Tot.pos (by omega) (Tot.known ?_)) (fun hc => ?_)
    · rw [if_pos hc] at h4
      refine Tot.ite (fun he => ?_) (fun he => ?_)
      · have eb : base x = x.f1 := by rw [hbase]; exact if_pos he
        have hg : (p.set i x.f1)[i]? = some (base x) := by rw [List.getElem?_set_self hil, eb]
        obtain ⟨u1, u2⟩ := upd (p.set i x.f1) (by simp only [List.length_set]; exact h1) hg (fun j hj => List.getElem?_set_ne (fun e => hj e.symm)) hc
        rw [rd_at hg, w64 (x := R - base x) (by omega) (by omega)]
        exact ih (i + 1) _ _ g2 (by simp only [List.length_set]; exact h1) u1 u2 (by omega)
      · have hlt : L < S := by
          rcases Int.lt_or_le L S with h5 | h5
          · exact h5
          · exact absurd (by rw [hen]; exact decide_eq_true h5) he
        have eb : base x = x.f1 * L / S := by rw [hbase]; exact if_neg he
        have hp := Int.mul_nonneg hx.2.1 hL
        have hp2 := Int.mul_le_mul hx.2.2 hL2 hL (by omega)
        refine Tot.neg (by omega) ?_
        rw [w64 (x := x.f1 * L) (by omega) (by omega), tdiv_nn hp, ← eb, w64 (x := base x) (by omega) (by omega)]
        refine Tot.known ?_
        have hg : ((p.set i x.f1).set i (base x))[i]? = some (base x) := by rw [List.getElem?_set_self (by simp only [List.length_set]; exact hil)]
        obtain ⟨u1, u2⟩ := upd ((p.set i x.f1).set i (base x)) (by simp only [List.length_set]; exact h1) hg (fun j hj => by rw [List.getElem?_set_ne (fun e => hj e.symm), List.getElem?_set_ne (fun e => hj e.symm)]) hc
        rw [rd_at hg, w64 (x := R - base x) (by omega) (by omega)]
        exact ih (i + 1) _ _ g2 (by simp only [List.length_set]; exact h1) u1 u2 (by omega)
    · rw [if_neg hc] at h4
      refine ih (i + 1) p R g2 h1 h2 (fun j z hj hz hzc => ?_) (by omega)
      by_cases hij : j = i
      · subst hij
        rw [g3] at hz
        injection hz with hz
        exact absurd (hz ▸ hzc) hc
      · exact h3 j z (by omega) hz hzc
theorem pay_l0 {l : List Cl} {c L : Int} {p0 : List Int} (h : VC l) {Q : Int × List Int → Prop} (H : Tot (fun k => impl_payClass.l1 k l c L p0 (cs c l) (decide (L ≥ cs c l)) L l l.length 0) Q) : ∀ (r : List Cl) (i : Nat) (acc : Int), l.drop i = r → acc + cs c r = cs c l → 0 ≤ acc → acc ≤ 100000 * i →
    Tot (fun k => impl_payClass.l0 k l c L p0 acc l l.length i) Q := by
  have hl := h.1
  intro r
  induction r with
  | nil =>
    intro i acc hd h1 _ _
    have := drop_nil hd
    refine Tot.step (fun _ => impl_payClass.l0.eq_2 ..) (Tot.neg (by omega) ?_)
    have e : acc = cs c l := by rw [← h1]; simp [cs, gs]
    rw [e]; exact H
  | cons x r ih =>
    intro i acc hd h1 h2 h3
    obtain ⟨g1, g2, g3⟩ := drop_cons hd
    have hx := (h.2 x (List.mem_of_getElem? g3)).2
    unfold cs at h1
    rw [gs] at h1
    refine Tot.step (fun _ => impl_payClass.l0.eq_2 ..) (Tot.pos (by omega) (Tot.pos (by omega) (Tot.pos (by omega) ?_)))
    rw [rdCl_at g3, w64s (by omega), w64 (x := acc + x.f1) (by omega) (by omega)]
    refine Tot.ite (fun hc => ih (i + 1) _ g2 ?_ (by omega) (by omega)) (fun hc => ih (i + 1) _ g2 ?_ (by omega) (by omega))
    · rw [if_pos hc] at h1; unfold cs; omega
    · rw [if_neg hc] at h1; unfold cs; omega
theorem payClass_tot {l : List Cl} {c L : Int} {p0 : List Int} (h : VC l) (hL : 0 ≤ L) (hL2 : L ≤ 1000000) (hp : p0.length = l.length) : Tot (fun k => impl_payClass.f k l c L p0) (PC l c L p0) := by
  unfold impl_payClass.f
  have hcs := cs_range (c := c) h
  have hl := h.1
  refine pay_l0 h ?_ l 0 0 rfl (by omega) (by omega) (by omega)
  refine pay_l1 h hL hL2 rfl rfl rfl (fun p h1 h2 h3 => ?_) l 0 p0 L rfl hp (fun _ _ _ _ => rfl) (fun j x hj => by omega) rfl
  by_cases he : L ≥ cs c l
  · rw [decide_eq_true he] at h3 ⊢
    have h3' : ∀ (j : Nat) (x : Cl), l[j]? = some x → x.f0 = c → p[j]? = some x.f1 := fun j x hx hc => by rw [h3 j x hx hc, if_pos rfl]
    have eb : gs c (fun e : Cl => if (true : Bool) = true then e.f1 else fl L (cs c l) e) l = cs c l := by
      unfold cs
      congr 1
    rw [eb]
    have fin : PC l c L p0 (L - cs c l, p) := ⟨h1, h2, fun _ => ⟨rfl, h3'⟩, fun h5 => by omega⟩
    refine Tot.step (fun _ => impl_payClass.l2.eq_2 ..) (Tot.ite (fun h5 => ?_) (fun _ => Tot.now fin))
    exact Tot.pos (by omega) (Tot.pos (by omega) (Tot.pos rfl (Tot.step (fun _ => impl_payClass.j3.eq_2 ..) (Tot.pos rfl (Tot.now fin)))))
  · rw [decide_eq_false he] at h3 ⊢
    have eb : gs c (fun e : Cl => if (false : Bool) = true then e.f1 else fl L (cs c l) e) l = gs c (fl L (cs c l)) l := by
      congr 1
    rw [eb]
    have h3' : ∀ (j : Nat) (x : Cl), l[j]? = some x → x.f0 = c → p[j]? = some (fl L (cs c l) x) := fun j x hx hc => by rw [h3 j x hx hc, if_neg (by decide)]
    have hS : 0 < cs c l := by omega
    have hf := fl_sum (c := c) (L := L) hS l
    have f1 : gs c (fl L (cs c l)) l ≤ L := by
      have e : L * cs c l = cs c l * L := Int.mul_comm _ _
      exact Int.le_of_mul_le_mul_left (by rw [← e]; exact hf.1) hS
    have f2 : L - gs c (fl L (cs c l)) l ≤ gs c (nz L (cs c l)) l := by
      have e : L * cs c l = cs c l * L := Int.mul_comm _ _
      have h5 := hf.2
      rw [e, ← Int.mul_add] at h5
      have := Int.le_of_mul_le_mul_left h5 hS
      omega
    have hfr : ∀ e : Cl, okC e → 0 ≤ fl L (cs c l) e ∧ fl L (cs c l) e ≤ 100000 := by
      intro e he
      have hx := he.2
      have hq := Int.mul_nonneg hx.1 hL
      have hle := Int.mul_le_mul_of_nonneg_left (show L ≤ cs c l by omega) hx.1
      have hd := Int.ediv_le_ediv hS hle
      rw [Int.mul_ediv_cancel _ (show cs c l ≠ 0 by omega)] at hd
      unfold fl
      exact ⟨Int.ediv_nonneg hq (by omega), by omega⟩
    refine pay_l2 h hL hL2 rfl (by omega) l 0 p _ rfl h1 h2 ?_ (by omega) f2 (fun j x y hx hc hy => ?_) (fun hz => ⟨?_, fun j x hx hc => ?_⟩)
    · rw [psum_base l p h1 h3']; omega
    · rw [h3' j x hx hc] at hy
      injection hy with hy
      have := hfr x (h.2 x (List.mem_of_getElem? hx))
      omega
    · have hg := gs_range (c := c) (g := fl L (cs c l)) (B := 100000) (by omega) (l := l) (fun e he => hfr e (h.2 e he))
      omega
    · rw [h3' j x hx hc]
      unfold fl
      rw [hz]; simp
/-- What the payments come to when o is the short class (-1: none). -/
def Fin (l : List Cl) (o : Int) (p : List Int) : Prop :=
  p.length = l.length ∧ (∀ (j : Nat) (x : Cl), l[j]? = some x → (o < 0 ∨ x.f0 < o) → p[j]? = some x.f1) ∧
  (0 ≤ o → ∃ (j : Nat) (x : Cl) (y : Int), l[j]? = some x ∧ x.f0 = o ∧ p[j]? = some y ∧ y < x.f1) ∧
  (0 ≤ o → ∀ (j : Nat) (x : Cl), l[j]? = some x → o < x.f0 → p[j]? = some 0)
theorem pays_B {l : List Cl} (h : VC l) {o : Int} (ho : 0 ≤ o) : ∀ (d : Nat) (c : Int) (p : List Int), c + d = 5 → o < c → p.length = l.length → (∀ (j : Nat) (x : Cl), l[j]? = some x → x.f0 < o → p[j]? = some x.f1) → (∃ (j : Nat) (x : Cl) (y : Int), l[j]? = some x ∧ x.f0 = o ∧ p[j]? = some y ∧ y < x.f1) → (∀ (j : Nat) (x : Cl), l[j]? = some x → o < x.f0 → x.f0 < c → p[j]? = some 0) →
    Tot (fun k => impl_PayClaims.l0 k l 0 p c) (Fin l o) := by
  intro d
  induction d with
  | zero =>
    intro c p hc hoc h1 h2 h3 h4
    refine Tot.step (fun _ => impl_PayClaims.l0.eq_2 ..) (Tot.neg (by omega) (Tot.now ⟨h1, fun j x hx h5 => h2 j x hx (by omega), fun _ => h3, fun _ j x hx h5 => h4 j x hx h5 ?_⟩))
    have := (h.2 x (List.mem_of_getElem? hx)).1
    omega
  | succ d ih =>
    intro c p hc hoc h1 h2 h3 h4
    refine Tot.step (fun _ => impl_PayClaims.l0.eq_2 ..) (Tot.pos (by omega) (Tot.bind (payClass_tot h (Int.le_refl _) (by omega) h1) ?_))
    rintro ⟨R, q⟩ ⟨k1, k2, k3, k4⟩
    dsimp only at k1 k2 k3 k4 ⊢
    have hcs := cs_range (c := c) h
    have hR : R = 0 ∧ ∀ (j : Nat) (x : Cl), l[j]? = some x → x.f0 = c → q[j]? = some 0 := by
      by_cases hz : cs c l ≤ 0
      · refine ⟨by have := (k3 hz).1; omega, fun j x hx hxc => ?_⟩
        rw [(k3 hz).2 j x hx hxc, cs_zero h.2 hz j x hx hxc]
      · exact ⟨(k4 (by omega)).1, (k4 (by omega)).2.2 rfl⟩
    rw [hR.1, w64 (x := c + 1) (by omega) (by omega)]
    obtain ⟨j0, x0, y0, a1, a2, a3, a4⟩ := h3
    refine ih (c + 1) q (by omega) (by omega) k1 (fun j x hx h5 => ?_) ⟨j0, x0, y0, a1, a2, ?_, a4⟩ (fun j x hx h5 h6 => ?_)
    · rw [k2 j x hx (by omega)]; exact h2 j x hx h5
    · rw [k2 j0 x0 a1 (by omega)]; exact a3
    · by_cases h7 : x.f0 = c
      · exact hR.2 j x hx h7
      · rw [k2 j x hx h7]; exact h4 j x hx h5 (by omega)
theorem pays_A {l : List Cl} (h : VC l) : ∀ (d : Nat) (c L : Int) (p : List Int), c + d = 5 → 0 ≤ c → 0 ≤ L → L ≤ 1000000 → p.length = l.length → (∀ (j : Nat) (x : Cl), l[j]? = some x → x.f0 < c → p[j]? = some x.f1) →
    Tot (fun k => impl_PayClaims.l0 k l L p c) (Fin l (sc l d c L)) := by
  intro d
  induction d with
  | zero =>
    intro c L p hc hc0 hL hL2 h1 h2
    refine Tot.step (fun _ => impl_PayClaims.l0.eq_2 ..) (Tot.neg (by omega) (Tot.now ?_))
    rw [sc]
    refine ⟨h1, fun j x hx _ => h2 j x hx ?_, fun h5 => by omega, fun h5 => by omega⟩
    have := (h.2 x (List.mem_of_getElem? hx)).1
    omega
  | succ d ih =>
    intro c L p hc hc0 hL hL2 h1 h2
    refine Tot.step (fun _ => impl_PayClaims.l0.eq_2 ..) (Tot.pos (by omega) (Tot.bind (payClass_tot h hL hL2 h1) ?_))
    rintro ⟨R, q⟩ ⟨k1, k2, k3, k4⟩
    dsimp only at k1 k2 k3 k4 ⊢
    have hcs := cs_range (c := c) h
    rw [w64 (x := c + 1) (by omega) (by omega), sc]
    by_cases hs : cs c l > L
    · rw [if_pos hs]
      obtain ⟨e1, ⟨j0, x0, y0, a1, a2, a3, a4⟩, _⟩ := k4 hs
      rw [e1]
      refine pays_B h hc0 d (c + 1) q (by omega) (by omega) k1 (fun j x hx h5 => ?_) ⟨j0, x0, y0, a1, a2, a3, a4⟩ (fun j x hx h5 h6 => by omega)
      rw [k2 j x hx (by omega)]; exact h2 j x hx h5
    · rw [if_neg hs]
      obtain ⟨e1, e2⟩ := k3 (by omega)
      rw [e1]
      refine ih (c + 1) _ q (by omega) (by omega) (by omega) (by omega) k1 (fun j x hx h5 => ?_)
      by_cases h7 : x.f0 = c
      · exact e2 j x hx h7
      · rw [k2 j x hx h7]; exact h2 j x hx (by omega)
theorem sc_range {l : List Cl} : ∀ (d : Nat) (c L : Int), 0 ≤ c → -1 ≤ sc l d c L := by
  intro d
  induction d with
  | zero => intro c L _; rw [sc]; omega
  | succ d ih =>
    intro c L hc
    rw [sc]
    split
    · omega
    · exact ih (c + 1) _ (by omega)
theorem payClaims_tot {l : List Cl} {b : Int} (h : okB l b) : Tot (fun k => impl_PayClaims.f k l b) (Fin l (sc l 5 0 b)) := by
  have hl := h.1.1
  have hb := h.2
  unfold impl_PayClaims.f
  refine Tot.bindv (implVC_tot (by omega)) (Tot.pos (decide_eq_true h.1) (Tot.neg (by omega) ?_))
  rw [decide_eq_false (show ¬ b > 1000000 by omega)]
  refine Tot.step (fun _ => impl_PayClaims.j0.eq_2 ..) (Tot.neg (by decide) (Tot.pos (by omega) (Tot.pos (by omega) ?_)))
  exact pays_A h.1 5 0 b _ (by omega) (by omega) hb.1 hb.2 (by rw [List.length_replicate]; omega) (fun j x hx h5 => by
    have := (h.1.2 x (List.mem_of_getElem? hx)).1
    omega)
theorem implShort_l0 {l : List Cl} {o : Int} {p : List Int} (h : VC l) (hF : Fin l o p) (ho : -1 ≤ o) : ∀ (r : List Cl) (i : Nat) (s : Int), l.drop i = r → (s < 0 → s = -1) → (0 ≤ s → 0 ≤ o ∧ o ≤ s) → (∀ (j : Nat) (x : Cl) (y : Int), j < i → l[j]? = some x → x.f0 = o → p[j]? = some y → y < x.f1 → s = o) →
    Tot (fun k => impl_ShortClass.l0 k l s p p.length i) (fun t => t = o) := by
  obtain ⟨f1, f2, f3, f4⟩ := hF
  have hl := h.1
  intro r
  induction r with
  | nil =>
    intro i s hd h1 h2 h3
    have := drop_nil hd
    refine Tot.step (fun _ => impl_ShortClass.l0.eq_2 ..) (Tot.neg (by omega) (Tot.now ?_))
    rcases Int.lt_or_le o 0 with h4 | h4
    · rcases Int.lt_or_le s 0 with h5 | h5
      · have := h1 h5; omega
      · have := h2 h5; omega
    · obtain ⟨j, x, y, a1, a2, a3, a4⟩ := f3 h4
      exact h3 j x y (by have := (List.getElem?_eq_some_iff.1 a1).1; omega) a1 a2 a3 a4
  | cons x r ih =>
    intro i s hd h1 h2 h3
    obtain ⟨g1, g2, g3⟩ := drop_cons hd
    have hil : i < p.length := by omega
    have hpi : p[i]? = some p[i] := List.getElem?_eq_getElem hil
    have hx := (h.2 x (List.mem_of_getElem? g3)).1
    refine Tot.step (fun _ => impl_ShortClass.l0.eq_2 ..) (Tot.pos (by omega) (Tot.pos (by omega) (Tot.pos (by omega) (Tot.pos (by omega) ?_))))
    rw [rd_at hpi, rdCl_at g3, w64s (by omega)]
    have hshort : p[i] < x.f1 → 0 ≤ o ∧ o ≤ x.f0 := by
      intro hs
      rcases Classical.em (o < 0 ∨ x.f0 < o) with h5 | h5
      · have := f2 i x g3 h5
        rw [hpi] at this
        injection this with this
        omega
      · omega
    refine Tot.ite (fun hs => ?_) (fun hs => ?_)
    · have hso := hshort hs
      refine Tot.ite (fun h5 => ih (i + 1) x.f0 g2 (by omega) (fun _ => hso) (fun j z y hj hz hzo hy hlt => ?_)) (fun h5 => Tot.ite (fun h6 => ih (i + 1) x.f0 g2 (by omega) (fun _ => hso) (fun j z y hj hz hzo hy hlt => ?_)) (fun h6 => ih (i + 1) s g2 h1 h2 (fun j z y hj hz hzo hy hlt => ?_)))
      · by_cases hij : j = i
        · subst hij
          rw [g3] at hz
          injection hz with hz
          rw [hz]; exact hzo
        · have := h3 j z y (by omega) hz hzo hy hlt
          omega
      · by_cases hij : j = i
        · subst hij
          rw [g3] at hz
          injection hz with hz
          rw [hz]; exact hzo
        · have := h3 j z y (by omega) hz hzo hy hlt
          omega
      · by_cases hij : j = i
        · subst hij
          rw [g3] at hz
          injection hz with hz
          have := h2 (by omega)
          rw [hz] at h6
          omega
        · exact h3 j z y (by omega) hz hzo hy hlt
    · refine ih (i + 1) s g2 h1 h2 (fun j z y hj hz hzo hy hlt => ?_)
      by_cases hij : j = i
      · subst hij
        rw [g3] at hz
        injection hz with hz
        rw [hpi] at hy
        injection hy with hy
        rw [hz] at hs
        omega
      · exact h3 j z y (by omega) hz hzo hy hlt
theorem implShort_tot {l : List Cl} {b : Int} (hl : l.length ≤ 1000000000) : Tot (fun k => impl_ShortClass.f k l b) (fun t => t = short l b) := by
  unfold impl_ShortClass.f
  have bad : ¬ okB l b → Tot (fun k => impl_ShortClass.j0 k l b true) (fun t => t = short l b) := fun h =>
    Tot.step (fun _ => impl_ShortClass.j0.eq_2 ..) (Tot.pos rfl (Tot.now (by unfold short; rw [if_neg h])))
  refine Tot.bindv (implVC_tot hl) (Tot.ite (fun h1 => Tot.ite (fun h2 => bad fun h => by have := h.2; omega) (fun h2 => ?_)) (fun h1 => bad fun h => h1 (decide_eq_true h.1)))
  have h1 := of_decide_eq_true h1
  by_cases h3 : b > 1000000
  · rw [decide_eq_true h3]; exact bad fun h => by have := h.2; omega
  rw [decide_eq_false h3]
  have h : okB l b := ⟨h1, by omega, by omega⟩
  refine Tot.step (fun _ => impl_ShortClass.j0.eq_2 ..) (Tot.neg (by decide) (Tot.bind (payClaims_tot h) ?_))
  intro p hF
  unfold short
  rw [if_pos h]
  exact implShort_l0 h1 hF (sc_range 5 0 b (by omega)) l 0 (-1) rfl (fun _ => rfl) (fun h5 => by omega) (fun j x y hj => by omega)
/-! the reader -/
theorem pick_tot {b : List Int} (hb : ∀ x ∈ b, 0 ≤ x ∧ x < 256) {p n : Int} (hp : 0 ≤ p) (hp2 : p ≤ 1000000000) (hn : n ≤ 1000000000000) :
    Tot (fun k => spec_reader_pick.f k b p n) (fun r => r.2 = p + 1 ∧ 0 ≤ r.1 ∧ (r.1 < n ∨ r.1 = 0)) := by
  have e1 : wrap64 (p + 1) = p + 1 := w64 (by omega) (by omega)
  have e2 : wrap64 (p + 1 - 1) = p := by rw [w64 (by omega) (by omega)]; omega
  have main : ∀ t : Bool, (t = false → 1 ≤ n ∧ b.length ≠ 0) → Tot (fun k => spec_reader_pick.j0 k n t b (p + 1)) (fun r => r.2 = p + 1 ∧ 0 ≤ r.1 ∧ (r.1 < n ∨ r.1 = 0)) := by
    intro t ht
    refine Tot.step (fun _ => spec_reader_pick.j0.eq_2 ..) ?_
    simp only [e2]
    cases t with
    | true => exact Tot.pos rfl (Tot.now ⟨rfl, Int.le_refl _, .inr rfl⟩)
    | false =>
      obtain ⟨hn1, hne⟩ := ht rfl
      refine Tot.neg (by simp) ?_
      by_cases hlt : p < (b.length : Int)
      · refine Tot.pos hlt (Tot.pos hp (Tot.neg (by omega) ?_))
        have hr := hb _ (rd_mem hp hlt)
        rw [w64 (x := rd b p) (by omega) (by omega), tmod_nn hr.1]
        exact Tot.now ⟨rfl, Int.emod_nonneg _ (by omega), .inl (Int.emod_lt_of_pos _ (by omega))⟩
      · refine Tot.neg hlt (Tot.neg (by omega) ?_)
        have hlen : 0 < (b.length : Int) := by omega
        have i1 : 0 ≤ Int.tmod p b.length ∧ Int.tmod p b.length < b.length := by
          rw [tmod_nn hp]; exact ⟨Int.emod_nonneg _ (by omega), Int.emod_lt_of_pos _ hlen⟩
        have e3 : wrap64 (wrap64 (p * 7) + 3) = p * 7 + 3 := by
          rw [w64 (x := p * 7) (by omega) (by omega)]; exact w64 (by omega) (by omega)
        rw [e3]
        have i2 : 0 ≤ Int.tmod (p * 7 + 3) b.length ∧ Int.tmod (p * 7 + 3) b.length < b.length := by
          rw [tmod_nn (by omega)]; exact ⟨Int.emod_nonneg _ (by omega), Int.emod_lt_of_pos _ hlen⟩
        refine Tot.pos i1.1 (Tot.pos i1.2 (Tot.pos i2.1 (Tot.pos i2.2 (Tot.neg (by omega) ?_))))
        have hu := hb _ (rd_mem i1.1 i1.2)
        have hv := hb _ (rd_mem i2.1 i2.2)
        have hq : 0 ≤ Int.tdiv p b.length ∧ Int.tdiv p b.length ≤ p := by
          rw [tdiv_nn hp]
          exact ⟨Int.ediv_nonneg hp (by omega), Int.ediv_le_self _ hp⟩
        generalize rd b (Int.tmod p b.length) = u at hu ⊢
        generalize rd b (Int.tmod (p * 7 + 3) b.length) = v at hv ⊢
        generalize Int.tdiv p b.length = q at hq ⊢
        rw [w64 (x := u) (by omega) (by omega), w64 (x := v) (by omega) (by omega), w64 (x := q) (by omega) (by omega), w64 (x := u * 131) (by omega) (by omega), w64 (x := v * 1117) (by omega) (by omega), w64 (x := p * 29) (by omega) (by omega), w64 (x := q * 53) (by omega) (by omega),
          w64 (x := u * 131 + v * 1117) (by omega) (by omega), w64 (x := u * 131 + v * 1117 + p * 29) (by omega) (by omega), w64 (x := u * 131 + v * 1117 + p * 29 + q * 53) (by omega) (by omega)]
        have hx : 0 ≤ u * 131 + v * 1117 + p * 29 + q * 53 ∧ u * 131 + v * 1117 + p * 29 + q * 53 < 4611686018427387904 := by omega
        generalize u * 131 + v * 1117 + p * 29 + q * 53 = x at hx ⊢
        rw [tdiv_nn hx.1, w64 (x := x / 64) (by omega) (by omega)]
        have hz := xor_nn hx.1 hx.2 (b := x / 64) (by omega) (by omega)
        rw [tmod_nn hz]
        exact Tot.now ⟨rfl, Int.emod_nonneg _ (by omega), .inl (Int.emod_lt_of_pos _ (by omega))⟩
  unfold spec_reader_pick.f
  rw [e1]
  refine Tot.ite (fun _ => main true (fun h => by cases h)) (fun h => main _ (fun h2 => ⟨by omega, fun h3 => ?_⟩))
  rw [h3] at h2
  simp at h2
theorem one_tot {b : List Int} (hb : ∀ x ∈ b, 0 ≤ x ∧ x < 256) {p : Int} (hp : 0 ≤ p) (hp2 : p ≤ 1000000000) {l : List Int} (hl : 0 < l.length) (hl2 : l.length ≤ 1000) :
    Tot (fun k => spec_reader_one.f k b p l) (fun r => r.2 = p + 1 ∧ r.1 ∈ l) := by
  unfold spec_reader_one.f
  refine Tot.bind (pick_tot hb hp hp2 (by omega)) ?_
  rintro ⟨v, q⟩ ⟨h1, h2, h3⟩
  simp only at h1 h2 h3 ⊢
  have h4 : v < (l.length : Int) := by omega
  exact Tot.pos h2 (Tot.pos h4 (Tot.now ⟨h1, rd_mem h2 h4⟩))
theorem newReader_tot {l : List Int} (h : ∀ x ∈ l, (Lit.int .u8 x).wf = true) : ∃ b, spec_newReader.f l = some (b, 0) ∧ b.length ≤ 2000 ∧ ∀ x ∈ b, 0 ≤ x ∧ x < 256 := by
  unfold spec_newReader.f
  by_cases h1 : (l.length : Int) > 2000
  · rw [if_pos h1, if_pos (by omega)]
    exact ⟨_, rfl, by simp; omega, fun x hx => wf_u8 (h x (List.mem_of_mem_take hx))⟩
  · rw [if_neg h1]
    exact ⟨_, rfl, by omega, fun x hx => wf_u8 (h x hx)⟩
theorem someClaims_l0 {b : List Int} (hb : ∀ x ∈ b, 0 ≤ x ∧ x < 256) : ∀ (d : Nat) (out : List Cl) (p : Int), 0 ≤ p → p + 3 * d ≤ 100000 → out.length + d ≤ 100 →
    Tot (fun k => spec_someClaims.l0 k out d b p) (fun r => r.1.length ≤ 100 ∧ 0 ≤ r.2 ∧ r.2 ≤ 100010) := by
  intro d
  induction d with
  | zero =>
    intro out p hp hp2 ho
    refine Tot.step (fun _ => spec_someClaims.l0.eq_2 ..) (Tot.neg (by omega) ?_)
    refine Tot.ite (fun h => ?_) (fun h => Tot.now ⟨by dsimp only; omega, hp, by dsimp only; omega⟩)
    refine Tot.bind (pick_tot hb hp (by omega) (by omega)) ?_
    rintro ⟨v, q⟩ ⟨h1, h2, h3⟩
    dsimp only at h1 h2 h3 ⊢
    refine Tot.ite (fun h4 => ?_) (fun h4 => Tot.now ⟨by dsimp only; omega, by dsimp only; omega, by dsimp only; omega⟩)
    refine Tot.bind (one_tot hb (by omega) (by omega) (by simp) (by simp)) ?_
    rintro ⟨v2, q2⟩ ⟨h5, _⟩
    dsimp only at h5 ⊢
    exact Tot.pos (by omega) (Tot.now ⟨by simp only [List.length_set]; omega, by dsimp only; omega, by dsimp only; omega⟩)
  | succ d ih =>
    intro out p hp hp2 ho
    refine Tot.step (fun _ => spec_someClaims.l0.eq_2 ..) (Tot.pos (by omega) ?_)
    have e : wrap64 (((d + 1 : Nat) : Int) - 1) = (d : Int) := by rw [w64 (by omega) (by omega)]; omega
    rw [e]
    refine Tot.bind (pick_tot hb hp (by omega) (by omega)) ?_
    rintro ⟨v, q⟩ ⟨h1, h2, h3⟩
    dsimp only at h1 h2 h3 ⊢
    refine Tot.bind (pick_tot hb (by omega) (by omega) (by omega)) ?_
    rintro ⟨v2, q2⟩ ⟨g1, g2, g3⟩
    dsimp only at g1 g2 g3 ⊢
    refine Tot.bind (one_tot hb (by omega) (by omega) (by simp) (by simp)) ?_
    rintro ⟨v3, q3⟩ ⟨f1, _⟩
    dsimp only at f1 ⊢
    exact Tot.pos (by omega) (ih _ q3 (by omega) (by omega) (by simp; omega))
theorem drawShort_tot {l : List Int} (hw : ∀ x ∈ l, (Lit.int .u8 x).wf = true) : Tot (fun k => spec_DrawShortClass.f k l) (fun r => r.1.length ≤ 100) := by
  unfold spec_DrawShortClass.f spec_DrawPayClaims.f spec_someClaims.f
  obtain ⟨b, hb, hb2, hb3⟩ := newReader_tot hw
  rw [hb]
  refine Tot.bind (P := fun r => r.1.length ≤ 100) (Tot.known ?_) (fun r hr => Tot.now hr)
  dsimp only
  refine Tot.bind (P := fun r : List Cl × Int => r.1.length ≤ 100 ∧ 0 ≤ r.2 ∧ r.2 ≤ 100010) (Tot.bind (one_tot hb3 (Int.le_refl _) (by omega) (by simp) (by simp)) ?_) ?_
  · rintro ⟨n, q⟩ ⟨h1, h2⟩
    simp only [List.mem_cons, List.not_mem_nil, or_false] at h1 h2 ⊢
    obtain ⟨d, rfl⟩ := Int.eq_ofNat_of_zero_le (show 0 ≤ n by omega)
    exact someClaims_l0 hb3 d [] q (by omega) (by omega) (by simp; omega)
  · rintro ⟨cl, q⟩ ⟨h1, h2, h3⟩
    dsimp only at h1 h2 h3 ⊢
    refine Tot.bind (pick_tot hb3 h2 (by omega) (by omega)) ?_
    rintro ⟨v, q2⟩ ⟨g1, g2, g3⟩
    dsimp only at g1 g2 g3 ⊢
    refine Tot.bind (one_tot hb3 (by omega) (by omega) (by simp) (by simp)) ?_
    rintro ⟨v2, q3⟩ _
    exact Tot.now h1
theorem lawLoop {l : List Cl} {o : Int} {p : List Int} (h : VC l) (hF : Fin l o p) (ho : -1 ≤ o) : ∀ (r : List Cl) (i : Nat) (s : Bool), l.drop i = r → (s = true → 0 ≤ o) → (∀ (j : Nat) (x : Cl) (y : Int), j < i → l[j]? = some x → x.f0 = o → p[j]? = some y → y < x.f1 → s = true) →
    Tot (fun k => laws_FnShortClass.l0 k l o p s i) (fun t => t = true) := by
  obtain ⟨f1, f2, f3, f4⟩ := hF
  have hl := h.1
  intro r
  induction r with
  | nil =>
    intro i s hd h1 h2
    have := drop_nil hd
    refine Tot.step (fun _ => laws_FnShortClass.l0.eq_2 ..) (Tot.neg (by omega) (Tot.now ?_))
    rcases Int.lt_or_le o 0 with h4 | h4
    · have es : s = false := by
        cases s with
        | false => rfl
        | true => have := h1 rfl; omega
      rw [es, decide_eq_false (by omega)]; rfl
    · obtain ⟨j, x, y, a1, a2, a3, a4⟩ := f3 h4
      rw [h2 j x y (by have := (List.getElem?_eq_some_iff.1 a1).1; omega) a1 a2 a3 a4, decide_eq_true h4]; rfl
  | cons x r ih =>
    intro i s hd h1 h2
    obtain ⟨g1, g2, g3⟩ := drop_cons hd
    have hil : i < p.length := by omega
    have hpi : p[i]? = some p[i] := List.getElem?_eq_getElem hil
    have hx := (h.2 x (List.mem_of_getElem? g3)).1
    have next : ∀ s2 : Bool, (s2 = true ↔ s = true ∨ (x.f0 = o ∧ p[i] < x.f1)) → Tot (fun k => laws_FnShortClass.l0 k l o p s2 ((i + 1 : Nat) : Int)) (fun t => t = true) := by
      intro s2 hs2
      refine ih (i + 1) s2 g2 (fun h5 => ?_) (fun j z y hj hz hzo hy hlt => ?_)
      · rcases hs2.1 h5 with h6 | h6
        · exact h1 h6
        · omega
      · by_cases hij : j = i
        · subst hij
          rw [g3] at hz
          injection hz with hz
          rw [hpi] at hy
          injection hy with hy
          exact hs2.2 (Or.inr ⟨by rw [hz]; exact hzo, by rw [hy, hz]; exact hlt⟩)
        · exact hs2.2 (Or.inl (h2 j z y (by omega) hz hzo hy hlt))
    have fullI : (o < 0 ∨ x.f0 < o) → p[i] = x.f1 := fun h5 => by
      have := f2 i x g3 h5
      rw [hpi] at this
      injection this
    have zeroI : 0 ≤ o → o < x.f0 → p[i] = 0 := fun h5 h6 => by
      have := f4 h5 i x g3 h6
      rw [hpi] at this
      injection this
    refine Tot.step (fun _ => laws_FnShortClass.l0.eq_2 ..) (Tot.pos (by omega) ?_)
    rw [rd_at hpi, rdCl_at g3, w64s (by omega)]
    have tail : ∀ (g : Nat → Option Bool), True → Tot (fun k => if s = true then laws_FnShortClass.l0 k l o p true ((i + 1 : Nat) : Int) else if x.f0 = o then laws_FnShortClass.l0 k l o p (decide (p[i] < x.f1)) ((i + 1 : Nat) : Int) else laws_FnShortClass.l0 k l o p false ((i + 1 : Nat) : Int)) (fun t => t = true) := by
      intro _ _
      refine Tot.ite (fun hs => next true ⟨fun _ => Or.inl hs, fun _ => rfl⟩) (fun hs => Tot.ite (fun hc => next _ ?_) (fun hc => next false ⟨fun h5 => (by cases h5), fun h5 => ?_⟩))
      · rw [decide_eq_true_iff]
        exact ⟨fun h5 => Or.inr ⟨hc, h5⟩, fun h5 => h5.elim (fun h6 => absurd h6 hs) (fun h6 => h6.2)⟩
      · exact h5.elim (fun h6 => absurd h6 hs) (fun h6 => absurd h6.1 hc)
    have tail2 : Tot (fun k => if s = true then laws_FnShortClass.l0 k l o p true ((i + 1 : Nat) : Int) else if x.f0 = o then if (i : Int) < (p.length : Int) then laws_FnShortClass.l0 k l o p (decide (p[i] < x.f1)) ((i + 1 : Nat) : Int) else none else laws_FnShortClass.l0 k l o p false ((i + 1 : Nat) : Int)) (fun t => t = true) := by
      refine Tot.ite (fun hs => next true ⟨fun _ => Or.inl hs, fun _ => rfl⟩) (fun hs => Tot.ite (fun hc => Tot.pos (by omega) (next _ ?_)) (fun hc => next false ⟨fun h5 => (by cases h5), fun h5 => ?_⟩))
      · rw [decide_eq_true_iff]
        exact ⟨fun h5 => Or.inr ⟨hc, h5⟩, fun h5 => h5.elim (fun h6 => absurd h6 hs) (fun h6 => h6.2)⟩
      · exact h5.elim (fun h6 => absurd h6 hs) (fun h6 => absurd h6.1 hc)
    have t1 := tail (fun _ => none) trivial
    by_cases c1 : o < 0
    · exact Tot.pos c1 (Tot.pos (by omega) (Tot.pos (by omega) (Tot.pos (fullI (Or.inl c1)) (Tot.neg (by omega) t1))))
    · refine Tot.neg c1 (Tot.pos (by omega) ?_)
      by_cases c2 : x.f0 < o
      · refine Tot.pos c2 (Tot.pos (by omega) (Tot.pos (fullI (Or.inr c2)) (Tot.pos (by omega) (Tot.neg (by omega) t1))))
      · refine Tot.neg c2 (Tot.pos (by omega) ?_)
        by_cases c3 : x.f0 > o
        · exact Tot.pos c3 (Tot.pos (by omega) (Tot.pos (zeroI (by omega) c3) t1))
        · exact Tot.neg c3 tail2
theorem FnShortClass : laws_FnShortClass.Pure := by
  intro l hl hl2 hw
  refine Tot.ends (g := fun k => laws_FnShortClass.f k l) ?_
  unfold laws_FnShortClass.f
  refine Tot.ite (fun _ => Tot.now rfl) (fun _ => ?_)
  refine Tot.bind (drawShort_tot hw) ?_
  rintro ⟨cl, b⟩ h1
  dsimp only at h1 ⊢
  refine Tot.bindv (implShort_tot (by omega)) (Tot.bindv (specShort_tot (by omega)) (Tot.pos rfl (Tot.step (fun _ => laws_FnShortClass.j0.eq_2 ..) ?_)))
  refine Tot.ite (fun h => ?_) (fun h => ?_)
  · exact Tot.bindv (specShort_tot (by omega)) (Tot.now (by simp))
  · have hok : okB cl b := by
      rcases Classical.em (okB cl b) with h2 | h2
      · exact h2
      · exact absurd (by unfold short; rw [if_neg h2]; decide) h
    have e : short cl b = sc cl 5 0 b := by unfold short; rw [if_pos hok]
    rw [e]
    refine Tot.bind (payClaims_tot hok) ?_
    intro p hF
    exact lawLoop hok.1 hF (sc_range 5 0 b (by omega)) cl 0 false rfl (fun h5 => by cases h5) (fun j x y hj => by omega)
end Go.Proofs.Ytpbhpkgilkfckaa.Pure
