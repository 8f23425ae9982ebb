/- FnInterestOf: for every code, interest is what is paid more than was owed. No condition beyond the statement's own. -/
import Derived.Test.YtpbhpkgilkfckaaQFnInterestOfx3
import Derived.Test.YtpbhpkgilkfckaaCore
namespace Go.Proofs.Ytpbhpkgilkfckaa.Pure
open Go.RowKit Go.Proofs.Ytpbhpkgilkfckaa.PFnInterestOf Go.Proofs.YtpbhpkgilkfckaaW.PrintWords
set_option linter.unusedSimpArgs false
set_option linter.unusedVariables false

def sumL : List Int → Int
  | [] => 0
  | x :: r => x + sumL r
theorem sumL_bound {l : List Int} (h : ∀ x ∈ l, 0 ≤ x ∧ x ≤ 1000000) : 0 ≤ sumL l ∧ sumL l ≤ 1000000 * l.length := by
  induction l with
  | nil => simp [sumL]
  | cons x r ih =>
    have h1 := ih (fun y hy => h y (List.mem_cons_of_mem _ hy))
    have h2 := h x (by simp)
    simp only [sumL, List.length_cons]
    omega
/-- A valid body. -/
def VB (ws : List Int) (need : Int) : Prop := (1 ≤ ws.length ∧ ws.length ≤ 12) ∧ (∀ w ∈ ws, 0 ≤ w ∧ w ≤ 100) ∧ 1 ≤ need ∧ need ≤ sumL ws
instance (ws : List Int) (need : Int) : Decidable (VB ws need) := inferInstanceAs (Decidable ((1 ≤ ws.length ∧ ws.length ≤ 12) ∧ (∀ w ∈ ws, 0 ≤ w ∧ w ≤ 100) ∧ 1 ≤ need ∧ need ≤ sumL ws))
theorem dfalse {p : Prop} {i : Decidable p} (h : ¬ p) : false = @decide p i := by
  symm; rw [decide_eq_false_iff_not]; exact h
theorem dtrue {p : Prop} {i : Decidable p} (h : p) : true = @decide p i := by
  symm; rw [decide_eq_true_iff]; exact h
/-! rounding to the even number -/
def evP (P d : Int) : Int := if 2 * (P % d) > d ∨ (2 * (P % d) = d ∧ P / d % 2 = 1) then P / d + 1 else P / d
def ev (n num den : Int) : Int := evP (n * num) den
theorem div_uniq {a b q r : Int} (hb : 0 < b) (h : a = b * q + r) (h0 : 0 ≤ r) (h1 : r < b) : a / b = q ∧ a % b = r :=
  (Int.ediv_emod_unique hb).2 ⟨by omega, h0, h1⟩
theorem evP_near {P d : Int} (hd : 0 < d) : -d ≤ 2 * P - 2 * (d * evP P d) ∧ 2 * P - 2 * (d * evP P d) ≤ d := by
  have h1 := Int.mul_ediv_add_emod P d
  have h2 := Int.emod_nonneg P (show d ≠ 0 by omega)
  have h3 := Int.emod_lt_of_pos P hd
  unfold evP
  split
  · rw [Int.mul_add, Int.mul_one]
    omega
  · omega
theorem evP_mono {P Q d : Int} (hd : 0 < d) (h : P ≤ Q) : evP P d ≤ evP Q d := by
  rcases Int.lt_or_eq_of_le h with h1 | h1
  · rcases Int.lt_or_le (evP Q d) (evP P d) with h2 | h2
    · have a := evP_near (P := P) hd
      have b := evP_near (P := Q) hd
      have c := Int.mul_le_mul_of_nonneg_left (show evP Q d + 1 ≤ evP P d by omega) (show 0 ≤ d by omega)
      rw [Int.mul_add, Int.mul_one] at c
      omega
    · exact h2
  · rw [h1]; exact Int.le_refl _
theorem evP_zero {d : Int} (hd : 0 < d) : evP 0 d = 0 := by
  unfold evP
  simp
  omega
theorem ev_mono {m n num den : Int} (hd : 1 ≤ den) (h0 : 0 ≤ num) (h : m ≤ n) : ev m num den ≤ ev n num den :=
  evP_mono (by omega) (Int.mul_le_mul_of_nonneg_right h h0)
theorem ev_range {n num den : Int} (hd : 1 ≤ den) (h0 : 0 ≤ num) (h1 : num ≤ den) (hn : 0 ≤ n) : 0 ≤ ev n num den ∧ ev n num den ≤ n := by
  have hz := ev_mono (m := 0) (n := n) hd h0 hn
  have e0 : ev 0 num den = 0 := by unfold ev; rw [Int.zero_mul]; exact evP_zero (by omega)
  refine ⟨by omega, ?_⟩
  rcases Int.lt_or_le n (ev n num den) with h2 | h2
  · have a := evP_near (P := n * num) (d := den) (by omega)
    have b := Int.mul_le_mul_of_nonneg_left h1 hn
    have c := Int.mul_le_mul_of_nonneg_left (show n + 1 ≤ ev n num den by omega) (show 0 ≤ den by omega)
    rw [Int.mul_add, Int.mul_one, Int.mul_comm den n] at c
    unfold ev at c
    omega
  · exact h2
theorem prod_range {n num : Int} (hn : 0 ≤ n) (hn2 : n ≤ 2000000) (h0 : 0 ≤ num) (h1 : num ≤ 1000) : 0 ≤ n * num ∧ n * num ≤ 2000000000 := by
  refine ⟨Int.mul_nonneg hn h0, ?_⟩
  have := Int.mul_le_mul hn2 h1 h0 (by omega)
  omega
def VR (num den : Int) : Prop := (1 ≤ den ∧ den ≤ 1000) ∧ 0 ≤ num ∧ num ≤ den
instance (num den : Int) : Decidable (VR num den) := inferInstanceAs (Decidable ((1 ≤ den ∧ den ≤ 1000) ∧ 0 ≤ num ∧ num ≤ den))
theorem implValidPart_eq (n num den : Int) : impl_validPart.f n num den = some (decide ((0 ≤ n ∧ n ≤ 1000000) ∧ VR num den)) := by
  unfold impl_validPart.f impl_ValidRate.f
  by_cases h1 : n ≥ 0
  · by_cases h2 : n ≤ 1000000
    · rw [if_pos h1, if_pos h2]
      by_cases h3 : den ≥ 1
      · by_cases h4 : den ≤ 1000
        · by_cases h5 : num ≥ 0
          · rw [if_pos h3, if_pos h4, if_pos h5]
            simp only [Option.bind_some]
            congr 1
            rw [decide_eq_decide]
            exact ⟨fun h => ⟨⟨h1, h2⟩, ⟨h3, h4⟩, h5, h⟩, fun h => h.2.2.2⟩
          · rw [if_pos h3, if_pos h4, if_neg h5]
            simp only [Option.bind_some]
            congr 1
            exact dfalse fun h => h5 h.2.2.1
        · rw [if_pos h3, if_neg h4]
          simp only [Option.bind_some]
          congr 1
          exact dfalse fun h => h4 h.2.1.2
      · rw [if_neg h3]
        simp only [Option.bind_some]
        congr 1
        exact dfalse fun h => h3 h.2.1.1
    · rw [if_pos h1, if_neg h2]
      congr 1
      exact dfalse fun h => h2 h.1.2
  · rw [if_neg h1]
    congr 1
    exact dfalse fun h => h1 h.1.1
theorem implRoundEven_eq (n num den : Int) : impl_RoundEven.f n num den = some (if (0 ≤ n ∧ n ≤ 1000000) ∧ VR num den then ev n num den else -1) := by
  unfold impl_RoundEven.f
  rw [implValidPart_eq]
  simp only [Option.bind_some, decide_eq_true_eq]
  by_cases h : (0 ≤ n ∧ n ≤ 1000000) ∧ VR num den
  · have hr := h.2
    unfold VR at hr
    have hp := prod_range (n := n) (num := num) h.1.1 (by omega) (by omega) (by omega)
    have h2 := Int.emod_nonneg (n * num) (show den ≠ 0 by omega)
    have h3 := Int.emod_lt_of_pos (n * num) (show 0 < den by omega)
    have h4 : 0 ≤ n * num / den := Int.ediv_nonneg hp.1 (by omega)
    have h5 : n * num / den ≤ n * num := Int.ediv_le_self _ hp.1
    rw [if_pos h, if_pos h, if_neg (by omega)]
    rw [w64 (x := n * num) (by omega) (by omega), tmod_nn hp.1, tdiv_nn hp.1, w64 (x := 2 * (n * num % den)) (by omega) (by omega), w64 (x := n * num / den) (by omega) (by omega), tmod_nn h4, w64 (x := n * num / den + 1) (by omega) (by omega)]
    unfold ev evP
    by_cases c1 : 2 * (n * num % den) > den
    · rw [if_pos c1, if_pos (.inl c1)]
    · by_cases c2 : 2 * (n * num % den) = den
      · by_cases c3 : n * num / den % 2 = 1
        · rw [if_neg c1, if_pos c2, if_pos c3, if_pos (.inr ⟨c2, c3⟩)]
        · rw [if_neg c1, if_pos c2, if_neg c3, if_neg (by rintro (h6 | h6); exact c1 h6; exact c3 h6.2)]
      · rw [if_neg c1, if_neg c2, if_neg (by rintro (h6 | h6); exact c1 h6; exact c2 h6.1)]
  · rw [if_neg h, if_neg h]
theorem inRange_eq (a b c : Int) : spec_inRange.f a b c = some (decide (b ≤ a ∧ a ≤ c)) := by
  unfold spec_inRange.f
  by_cases h : b ≤ a
  · rw [if_pos h]; simp [h]
  · rw [if_neg h]; simp [h]
theorem specValidRate_eq (num den : Int) : spec_validRate.f num den = some (decide (VR num den)) := by
  unfold spec_validRate.f
  simp only [inRange_eq, Option.bind_some, decide_eq_true_eq]
  by_cases h : 1 ≤ den ∧ den ≤ 1000
  · rw [if_pos h]
    congr 1
    rw [decide_eq_decide]
    exact ⟨fun h2 => ⟨h, h2⟩, fun h2 => h2.2⟩
  · rw [if_neg h]
    congr 1
    exact dfalse fun h2 => h h2.1
theorem specEven_eq {n num den : Int} (hn : 0 ≤ n) (hn2 : n ≤ 2000000) (hr : VR num den) : spec_even.f n num den = some (ev n num den) := by
  unfold spec_even.f spec_near.f
  unfold VR at hr
  have hp := prod_range (n := n) (num := num) hn hn2 (by omega) (by omega)
  have e2 : 2 * n * num = 2 * (n * num) := Int.mul_assoc 2 n num
  rw [w64 (x := 2 * den) (by omega) (by omega), w64 (x := 2 * n) (by omega) (by omega), e2]
  unfold ev evP
  generalize n * num = P at hp ⊢
  have h1 := Int.mul_ediv_add_emod P den
  have h2 := Int.emod_nonneg P (show den ≠ 0 by omega)
  have h3 := Int.emod_lt_of_pos P (show 0 < den by omega)
  have h4 : 0 ≤ P / den := Int.ediv_nonneg hp.1 (by omega)
  have h5 : P / den ≤ P := Int.ediv_le_self _ hp.1
  generalize P / den = q at h1 h4 h5 ⊢
  generalize P % den = r at h1 h2 h3 ⊢
  rw [if_neg (by omega), w64 (x := 2 * P) (by omega) (by omega), w64 (x := 2 * P + den) (by omega) (by omega), tdiv_nn (by omega : 0 ≤ 2 * P + den), tmod_nn (by omega : 0 ≤ 2 * P), tdiv_nn (by omega : 0 ≤ 2 * P)]
  have m1 : 2 * den * q = 2 * (den * q) := Int.mul_assoc 2 den q
  have m2 : 2 * den * (q + 1) = 2 * (den * q) + 2 * den := by rw [Int.mul_add, m1, Int.mul_one]
  have m3 : den * (2 * q) = 2 * (den * q) := by rw [← Int.mul_assoc, Int.mul_comm den 2, Int.mul_assoc]
  have m4 : den * (2 * q + 1) = 2 * (den * q) + den := by rw [Int.mul_add, m3, Int.mul_one]
  by_cases c1 : 2 * r > den
  · obtain ⟨a1, _⟩ := div_uniq (a := 2 * P + den) (b := 2 * den) (q := q + 1) (r := 2 * r - den) (by omega) (by omega) (by omega) (by omega)
    obtain ⟨a2, a3⟩ := div_uniq (a := 2 * P) (b := den) (q := 2 * q + 1) (r := 2 * r - den) (by omega) (by omega) (by omega) (by omega)
    rw [a1, w64 (x := q + 1) (by omega) (by omega), a3, if_pos (.inl c1)]
    simp only [Option.bind_some]
    rw [if_neg (by omega), if_neg (by omega)]
  · by_cases c2 : 2 * r = den
    · obtain ⟨a1, _⟩ := div_uniq (a := 2 * P + den) (b := 2 * den) (q := q + 1) (r := 0) (by omega) (by omega) (by omega) (by omega)
      obtain ⟨a2, a3⟩ := div_uniq (a := 2 * P) (b := den) (q := 2 * q + 1) (r := 0) (by omega) (by omega) (by omega) (by omega)
      rw [a1, w64 (x := q + 1) (by omega) (by omega), a3, a2, w64 (x := 2 * q + 1) (by omega) (by omega), tmod_nn (by omega : 0 ≤ 2 * q + 1)]
      simp only [Option.bind_some]
      rw [if_neg (by omega), if_pos trivial, if_pos (by omega), tmod_nn (by omega : 0 ≤ q + 1)]
      by_cases c3 : q % 2 = 1
      · rw [if_neg (by omega), if_pos (.inr ⟨c2, c3⟩)]
      · rw [if_pos (by omega), if_neg (by rintro (h6 | h6); exact c1 h6; exact c3 h6.2), w64 (x := q + 1 - 1) (by omega) (by omega)]
        congr 1; omega
    · have hq : 2 * r < den := by omega
      obtain ⟨a1, _⟩ := div_uniq (a := 2 * P + den) (b := 2 * den) (q := q) (r := 2 * r + den) (by omega) (by omega) (by omega) (by omega)
      obtain ⟨a2, a3⟩ := div_uniq (a := 2 * P) (b := den) (q := 2 * q) (r := 2 * r) (by omega) (by omega) (by omega) (by omega)
      rw [a1, w64 (x := q) (by omega) (by omega), a3, a2, w64 (x := 2 * q) (by omega) (by omega), tmod_nn (by omega : 0 ≤ 2 * q)]
      rw [if_neg (show ¬ (2 * r > den ∨ (2 * r = den ∧ q % 2 = 1)) by omega)]
      simp only [Option.bind_some]
      rw [if_neg (by omega)]
      by_cases c4 : 2 * r = 0
      · rw [if_pos c4, if_neg (by omega)]
      · rw [if_neg c4]
theorem allIn_l0 {xs : List Int} {lo hi : Int} (hl : xs.length ≤ 1000000000000) : ∀ (r : List Int) (i : Nat), xs.drop i = r →
    Tot (fun k => spec_allIn.l0 k xs lo hi i) (fun t => t = decide (∀ x ∈ r, lo ≤ x ∧ x ≤ hi)) := by
  intro r
  induction r with
  | nil =>
    intro i h
    have := drop_nil h
    exact Tot.step (fun _ => spec_allIn.l0.eq_2 ..) (Tot.neg (by omega) (Tot.now (by simp)))
  | cons x r ih =>
    intro i h
    obtain ⟨h1, h2, h3⟩ := drop_cons h
    refine Tot.step (fun _ => spec_allIn.l0.eq_2 ..) ?_
    rw [rd_at h3, w64s (by omega), inRange_eq]
    simp only [Option.bind_some, decide_eq_true_eq]
    refine Tot.pos (by omega) (Tot.pos (by omega) (Tot.ite (fun h4 => ?_) (fun h4 => Tot.now ?_)))
    · refine (ih (i + 1) h2).mono ?_
      rintro t rfl
      rw [decide_eq_decide]
      simp only [List.mem_cons, forall_eq_or_imp]
      exact ⟨fun h => ⟨h4, h⟩, fun h => h.2⟩
    · symm
      rw [decide_eq_false_iff_not]
      exact fun h => h4 (h x (by simp))
theorem allIn_tot {xs : List Int} {lo hi : Int} (hl : xs.length ≤ 1000000000000) : Tot (fun k => spec_allIn.f k xs lo hi) (fun t => t = decide (∀ x ∈ xs, lo ≤ x ∧ x ≤ hi)) := by
  unfold spec_allIn.f
  exact allIn_l0 hl xs 0 rfl
/-! what is owed after each period -/
def nxt (n num den pay : Int) : Int := if n + ev n num den - pay < 0 then 0 else n + ev n num den - pay
/-- With c periods left: what is owed after each; none if it grows too great. -/
def run (num den pay : Int) : Nat → Int → Option (List Int)
  | 0, _ => some []
  | c + 1, n => if n ≤ 0 then some [] else if nxt n num den pay > 1000000 then none else (run num den pay c (nxt n num den pay)).map (fun l => nxt n num den pay :: l)
def owedOK (n num den pay : Int) : Prop := (0 ≤ n ∧ n ≤ 1000000) ∧ VR num den ∧ 0 ≤ pay ∧ pay ≤ 1000000
instance (n num den pay : Int) : Decidable (owedOK n num den pay) := inferInstanceAs (Decidable ((0 ≤ n ∧ n ≤ 1000000) ∧ VR num den ∧ 0 ≤ pay ∧ pay ≤ 1000000))
def owed (n num den pay : Int) : List Int := if owedOK n num den pay then (run num den pay 60 n).getD [] else []
theorem run_len {num den pay : Int} : ∀ {c : Nat} {n : Int} {l : List Int}, run num den pay c n = some l → l.length ≤ c := by
  intro c
  induction c with
  | zero => intro n l h; rw [run] at h; injection h with h; rw [← h]; simp
  | succ c ih =>
    intro n l h
    rw [run] at h
    split at h
    · injection h with h; rw [← h]; simp
    · split at h
      · cases h
      · rcases hr : run num den pay c (nxt n num den pay) with _ | l2
        · rw [hr] at h; cases h
        · rw [hr] at h
          simp only [Option.map_some] at h
          injection h with h
          have := ih hr
          rw [← h]; simp; omega
theorem owed_len (n num den pay : Int) : (owed n num den pay).length ≤ 60 := by
  unfold owed
  split
  · rcases hr : run num den pay 60 n with _ | l
    · simp
    · have := run_len hr; simpa using this
  · simp
theorem nxt_range {n num den pay : Int} (hr : VR num den) (hn : 0 ≤ n) (hn2 : n ≤ 1000000) (hp : 0 ≤ pay) : 0 ≤ nxt n num den pay ∧ nxt n num den pay ≤ 2000000 := by
  have h := ev_range (n := n) (num := num) (den := den) hr.1.1 hr.2.1 hr.2.2 hn
  unfold nxt
  split <;> omega
theorem implPay_l0 {num den pay : Int} (hr : VR num den) (hp : 0 ≤ pay ∧ pay ≤ 1000000) : ∀ (c : Nat) (n : Int) (out : List Int) (s : Int), out.length + c = 60 → 0 ≤ n → n ≤ 1000000 → 0 ≤ s → s ≤ 1000000 * out.length →
    Tot (fun k => impl_payBack.l0 k n pay out s num den) (fun t => (∀ l, run num den pay c n = some l → t.1 = out ++ l ∧ t.2.2 = true) ∧ (run num den pay c n = none → t.1 = [] ∧ t.2.2 = false)) := by
  intro c
  induction c with
  | zero =>
    intro n out s ho hn hn2 hs hs2
    refine Tot.step (fun _ => impl_payBack.l0.eq_2 ..) ?_
    have fin : Tot (fun k => impl_payBack.j2 k n pay out s false num den) (fun t => (∀ l, run num den pay 0 n = some l → t.1 = out ++ l ∧ t.2.2 = true) ∧ (run num den pay 0 n = none → t.1 = [] ∧ t.2.2 = false)) := by
      refine Tot.step (fun _ => impl_payBack.j2.eq_2 ..) (Tot.neg (by simp) (Tot.now ⟨fun l h => ?_, fun h => (by rw [run] at h; cases h)⟩))
      rw [run] at h
      injection h with h
      rw [← h]; simp
    refine Tot.ite (fun _ => ?_) (fun _ => fin)
    have e : decide ((out.length : Int) < 60) = false := by simp; omega
    rw [e]
    exact fin
  | succ c ih =>
    intro n out s ho hn hn2 hs hs2
    refine Tot.step (fun _ => impl_payBack.l0.eq_2 ..) ?_
    refine Tot.ite (fun h0 => ?_) (fun h0 => ?_)
    · have e : decide ((out.length : Int) < 60) = true := by simp; omega
      rw [e]
      refine Tot.step (fun _ => impl_payBack.j2.eq_2 ..) (Tot.pos rfl ?_)
      rw [implRoundEven_eq, if_pos ⟨⟨hn, hn2⟩, hr⟩]
      simp only [Option.bind_some]
      have hv := ev_range (n := n) (num := num) (den := den) hr.1.1 hr.2.1 hr.2.2 hn
      have hx := nxt_range (n := n) (pay := pay) hr hn hn2 hp.1
      have en : mx (wrap64 (wrap64 (n + ev n num den) - pay)) 0 = nxt n num den pay := by
        rw [w64 (x := n + ev n num den) (by omega) (by omega), w64 (x := n + ev n num den - pay) (by omega) (by omega)]
        rfl
      rw [en, w64 (x := s + ev n num den) (by omega) (by omega)]
      refine Tot.ite (fun h1 => Tot.now ?_) (fun h1 => Tot.pos (by omega) ?_)
      · have : run num den pay (c + 1) n = none := by rw [run, if_neg (by omega), if_pos h1]
        rw [this]
        exact ⟨fun l h => (by cases h), fun _ => ⟨rfl, rfl⟩⟩
      · refine (ih (nxt n num den pay) _ _ (by simp; omega) hx.1 (by omega) (by omega) (by simp; omega)).mono ?_
        rintro t ⟨t1, t2⟩
        have er : run num den pay (c + 1) n = (run num den pay c (nxt n num den pay)).map (fun l => nxt n num den pay :: l) := by rw [run, if_neg (by omega), if_neg h1]
        rw [er]
        rcases hrr : run num den pay c (nxt n num den pay) with _ | l2
        · exact ⟨fun l h => (by cases h), fun _ => t2 hrr⟩
        · refine ⟨fun l h => ?_, fun h => (by cases h)⟩
          simp only [Option.map_some] at h
          injection h with h
          have := t1 l2 hrr
          rw [← h, this.1]
          exact ⟨by simp, this.2⟩
    · refine Tot.step (fun _ => impl_payBack.j2.eq_2 ..) (Tot.neg (by simp) (Tot.now ?_))
      have : run num den pay (c + 1) n = some [] := by rw [run, if_pos (by omega)]
      rw [this]
      refine ⟨fun l h => ?_, fun h => (by cases h)⟩
      injection h with h
      rw [← h]; simp
theorem implOwedAfter_tot (n num den pay : Int) : Tot (fun k => impl_OwedAfter.f k n num den pay) (fun t => t = owed n num den pay) := by
  unfold impl_OwedAfter.f impl_payBack.f owed
  rw [implValidPart_eq]
  simp only [Option.bind_some, decide_eq_true_eq]
  have bad : ¬ owedOK n num den pay → Tot (fun k => (impl_payBack.j0 k n pay true num den).bind fun bt145 => some bt145.1) (fun t => t = if owedOK n num den pay then (run num den pay 60 n).getD [] else []) := by
    intro h
    rw [if_neg h]
    refine Tot.bind (P := fun t => t.1 = []) (Tot.step (fun _ => impl_payBack.j0.eq_2 ..) (Tot.pos rfl (Tot.now rfl))) ?_
    rintro t ht
    exact Tot.now ht
  by_cases h1 : (0 ≤ n ∧ n ≤ 1000000) ∧ VR num den
  · by_cases h2 : pay < 0
    · have h := bad (fun h => by have := h.2.2; omega)
      exact h.congr (fun k => by rw [if_pos h1, if_pos h2])
    · by_cases h3 : pay > 1000000
      · have h := bad (fun h => by have := h.2.2; omega)
        exact h.congr (fun k => by rw [if_pos h1, if_neg h2, decide_eq_true h3])
      · have hok : owedOK n num den pay := ⟨h1.1, h1.2, by omega, by omega⟩
        rw [if_pos hok]
        refine Tot.congr (f := fun k => (impl_payBack.j0 k n pay false num den).bind fun bt145 => some bt145.1) (fun k => by rw [if_pos h1, if_neg h2, decide_eq_false h3]) ?_
        refine Tot.bind (Tot.step (fun _ => impl_payBack.j0.eq_2 ..) (Tot.neg (by simp) (implPay_l0 h1.2 ⟨by omega, by omega⟩ 60 n [] 0 rfl h1.1.1 h1.1.2 (Int.le_refl _) (by simp)))) ?_
        rintro t ⟨t1, t2⟩
        refine Tot.now ?_
        rcases hrr : run num den pay 60 n with _ | l
        · exact (t2 hrr).1
        · simpa using (t1 l hrr).1
  · have h := bad (fun h => h1 ⟨h.1, h.2.1⟩)
    exact h.congr (fun k => by rw [if_neg h1])
/-- What the reference lists: up to the one that is too great. -/
def bal (num den pay : Int) : Nat → Int → List Int
  | 0, _ => []
  | c + 1, n => if n ≤ 0 then [] else if n > 1000000 then [] else nxt n num den pay :: bal num den pay c (nxt n num den pay)
theorem bal_run {num den pay : Int} (hr : VR num den) (hp : 0 ≤ pay) : ∀ {c : Nat} {n : Int}, 0 ≤ n → n ≤ 1000000 → (run num den pay c n = if ∀ x ∈ bal num den pay c n, 0 ≤ x ∧ x ≤ 1000000 then some (bal num den pay c n) else none) := by
  intro c
  induction c with
  | zero => intro n _ _; simp [run, bal]
  | succ c ih =>
    intro n hn hn2
    have hx := nxt_range (n := n) (pay := pay) hr hn hn2 hp
    rw [run, bal]
    by_cases h0 : n ≤ 0
    · rw [if_pos h0, if_pos h0]; simp
    · rw [if_neg h0, if_neg h0, if_neg (show ¬ n > 1000000 by omega)]
      by_cases h1 : nxt n num den pay > 1000000
      · rw [if_pos h1, if_neg]
        intro h; have := (h _ (List.mem_cons_self)).2; omega
      · rw [if_neg h1, ih hx.1 (by omega)]
        by_cases h2 : ∀ x ∈ bal num den pay c (nxt n num den pay), 0 ≤ x ∧ x ≤ 1000000
        · rw [if_pos h2, if_pos]
          · rfl
          · intro x hm
            rcases List.mem_cons.1 hm with rfl | hm
            · exact ⟨hx.1, by omega⟩
            · exact h2 x hm
        · rw [if_neg h2, if_neg]
          · rfl
          · intro h; exact h2 (fun x hm => h x (List.mem_cons_of_mem _ hm))
theorem bal_len {num den pay : Int} : ∀ {c : Nat} {n : Int}, (bal num den pay c n).length ≤ c := by
  intro c
  induction c with
  | zero => intro n; simp [bal]
  | succ c ih =>
    intro n
    rw [bal]
    split
    · simp
    · split
      · simp
      · have := ih (n := nxt n num den pay); simp; omega
theorem specBal_l0 {num den pay : Int} (hr : VR num den) (hp : 0 ≤ pay ∧ pay ≤ 1000000) : ∀ (c i : Nat) (n : Int) (out : List Int), i + c = 60 → out.length ≤ i → 0 ≤ n → n ≤ 2000000 →
    Tot (fun k => spec_balances.l0 k n pay 60 out i num den) (fun t => t = out ++ bal num den pay c n) := by
  intro c
  induction c with
  | zero =>
    intro i n out hi ho hn hn2
    exact Tot.step (fun _ => spec_balances.l0.eq_2 ..) (Tot.neg (by omega) (Tot.now (by simp [bal])))
  | succ c ih =>
    intro i n out hi ho hn hn2
    refine Tot.step (fun _ => spec_balances.l0.eq_2 ..) (Tot.pos (by omega) ?_)
    rw [bal]
    refine Tot.ite (fun h0 => Tot.ite (fun h1 => ?_) (fun h1 => ?_)) (fun h0 => ?_)
    · rw [if_neg (show ¬ n ≤ 0 by omega), if_neg (show ¬ n > 1000000 by omega), specEven_eq hn hn2 hr, w64s (by omega)]
      simp only [Option.bind_some]
      have hv := ev_range (n := n) (num := num) (den := den) hr.1.1 hr.2.1 hr.2.2 hn
      have hx := nxt_range (n := n) (pay := pay) hr hn h1 hp.1
      have en : mx 0 (wrap64 (wrap64 (n + ev n num den) - pay)) = nxt n num den pay := by
        rw [w64 (x := n + ev n num den) (by omega) (by omega), w64 (x := n + ev n num den - pay) (by omega) (by omega)]
        unfold mx nxt
        split <;> split <;> omega
      rw [en]
      refine Tot.pos (by omega) ((ih (i + 1) (nxt n num den pay) _ (by omega) (by simp; omega) hx.1 hx.2).mono ?_)
      rintro t rfl
      simp
    · rw [if_neg (show ¬ n ≤ 0 by omega), if_pos (show n > 1000000 by omega)]; exact Tot.now (by simp)
    · rw [if_pos (show n ≤ 0 by omega)]; exact Tot.now (by simp)
theorem specValidLoan_eq (n num den pay : Int) : spec_validLoan.f n num den pay = some (decide (owedOK n num den pay)) := by
  unfold spec_validLoan.f spec_validAmount.f
  simp only [inRange_eq, specValidRate_eq, Option.bind_some, decide_eq_true_eq]
  by_cases h1 : 0 ≤ n ∧ n ≤ 1000000
  · by_cases h2 : VR num den
    · rw [if_pos h1, if_pos h2]
      congr 1
      rw [decide_eq_decide]
      exact ⟨fun h => ⟨h1, h2, h⟩, fun h => h.2.2⟩
    · rw [if_pos h1, if_neg h2]
      congr 1
      exact dfalse fun h => h2 h.2.1
  · rw [if_neg h1]
    congr 1
    exact dfalse fun h => h1 h.1
theorem specBalances_tot {n num den pay : Int} (h : owedOK n num den pay) : Tot (fun k => spec_balances.f k n num den pay 60) (fun t => t = bal num den pay 60 n) := by
  unfold spec_balances.f
  refine (specBal_l0 h.2.1 h.2.2 60 0 n [] rfl (Nat.le_refl _) h.1.1 (by have := h.1.2; omega)).mono ?_
  rintro t rfl
  simp
theorem Tot.bindv {α β : Type} {g : Nat → Option α} {F : Nat → α → Option β} {v : α} {Q : β → Prop} (h : Tot g (fun t => t = v)) (h2 : Tot (fun k => F k v) Q) : Tot (fun k => (g k).bind (F k)) Q :=
  Tot.bind h (fun a ha => by rw [ha]; exact h2)
def intr (num den pay : Int) : Nat → Int → Int
  | 0, _ => 0
  | c + 1, n => if n ≤ 0 then 0 else ev n num den + intr num den pay c (nxt n num den pay)
def bef (n : Int) : List Int → Int
  | [] => n
  | [_] => n
  | x :: y :: r => bef x (y :: r)
def las : List Int → Int
  | [] => 0
  | [x] => x
  | _ :: y :: r => las (y :: r)
theorem rd_cons {x : Int} {l : List Int} {i : Nat} : rd (x :: l) ((i + 1 : Nat) : Int) = rd l (i : Int) := by
  simp [rd, List.getD_eq_getElem?_getD]
theorem rd_las : ∀ (l : List Int), l ≠ [] → rd l ((l.length - 1 : Nat) : Int) = las l := by
  intro l
  induction l with
  | nil => intro h; exact absurd rfl h
  | cons x r ih =>
    intro _
    cases r with
    | nil => simp [las, rd]
    | cons y r =>
      have h := ih (by simp)
      rw [las, ← h, show (x :: y :: r).length - 1 = (y :: r).length - 1 + 1 from by simp, rd_cons]
theorem rd_bef : ∀ (l : List Int) (n : Int), 2 ≤ l.length → rd l ((l.length - 2 : Nat) : Int) = bef n l := by
  intro l
  induction l with
  | nil => intro n h; simp at h
  | cons x r ih =>
    intro n h
    cases r with
    | nil => simp at h
    | cons y r =>
      rw [bef]
      cases r with
      | nil => simp [bef, rd]
      | cons z r =>
        have h2 := ih x (by simp)
        rw [← h2, show (x :: y :: z :: r).length - 2 = (y :: z :: r).length - 2 + 1 from by simp, rd_cons]
theorem intr_zero {num den pay : Int} (c : Nat) : intr num den pay c 0 = 0 := by
  cases c with
  | zero => rfl
  | succ c => rw [intr, if_pos (Int.le_refl _)]
theorem run_cons {num den pay : Int} {c : Nat} {n x : Int} {r : List Int} (h : run num den pay (c + 1) n = some (x :: r)) : 0 < n ∧ x = nxt n num den pay ∧ x ≤ 1000000 ∧ run num den pay c x = some r := by
  rw [run] at h
  by_cases h0 : n ≤ 0
  · rw [if_pos h0] at h; injection h with h; cases h
  · rw [if_neg h0] at h
    by_cases h1 : nxt n num den pay > 1000000
    · rw [if_pos h1] at h; cases h
    · rw [if_neg h1] at h
      rcases hrn : run num den pay c (nxt n num den pay) with _ | l2
      · rw [hrn] at h; cases h
      · rw [hrn] at h
        simp only [Option.map_some] at h
        injection h with h
        injection h with h2 h3
        rw [← h2, ← h3]
        exact ⟨by omega, rfl, by omega, hrn⟩
theorem intr_eq {num den pay : Int} (hr : VR num den) (hp : 0 ≤ pay) : ∀ (c : Nat) (n : Int) (l : List Int), 0 ≤ n → n ≤ 1000000 → run num den pay c n = some l → l ≠ [] → las l ≤ 0 →
    intr num den pay c n = pay * ((l.length : Int) - 1) + (bef n l + ev (bef n l) num den) - n ∧ bef n l + ev (bef n l) num den ≤ pay ∧ 0 ≤ bef n l ∧ bef n l ≤ 1000000 := by
  intro c
  induction c with
  | zero => intro n l _ _ h hne _; rw [run] at h; injection h with h; exact absurd h.symm hne
  | succ c ih =>
    intro n l hn hn2 h hne hl
    cases l with
    | nil => exact absurd rfl hne
    | cons x r =>
      obtain ⟨h0, h1, h2, h3⟩ := run_cons h
      have hx := nxt_range (n := n) (pay := pay) hr hn hn2 hp
      rw [intr, if_neg (by omega), ← h1]
      cases r with
      | nil =>
        rw [las] at hl
        have hx0 : x = 0 := by omega
        rw [hx0, intr_zero]
        rw [hx0] at h1
        unfold nxt at h1
        refine ⟨by simp [bef]; omega, ?_, hn, hn2⟩
        rw [bef]
        split at h1 <;> omega
      | cons y r =>
        rw [las] at hl
        obtain ⟨e1, e2, e3, e4⟩ := ih x (y :: r) (by omega) h2 h3 (by simp) hl
        have hx0 : 0 < x := by
          cases c with
          | zero => rw [run] at h3; injection h3 with h3; cases h3
          | succ c => exact (run_cons h3).1
        have ex : x = n + ev n num den - pay := by
          rw [h1] at hx0 ⊢
          unfold nxt at hx0 ⊢
          split at hx0
          · omega
          · rename_i g; rw [if_neg g]
        rw [bef]
        refine ⟨?_, e2, e3, e4⟩
        rw [e1]
        simp only [List.length_cons, Int.natCast_add, Int.natCast_one]
        grind
/-! the reader -/
theorem pick_tot {b : List Int} (hb : ∀ x ∈ b, 0 ≤ x ∧ x < 256) {p n : Int} (hp : 0 ≤ p) (hp2 : p ≤ 1000000000) (hn : n ≤ 1000000000000) :
    Tot (fun k => spec_reader_pick.f k b p n) (fun r => r.2 = p + 1 ∧ 0 ≤ r.1 ∧ (r.1 < n ∨ r.1 = 0)) := by
  have e1 : wrap64 (p + 1) = p + 1 := w64 (by omega) (by omega)
  have e2 : wrap64 (p + 1 - 1) = p := by rw [w64 (by omega) (by omega)]; omega
  have main : ∀ t : Bool, (t = false → 1 ≤ n ∧ b.length ≠ 0) → Tot (fun k => spec_reader_pick.j0 k n t b (p + 1)) (fun r => r.2 = p + 1 ∧ 0 ≤ r.1 ∧ (r.1 < n ∨ r.1 = 0)) := by
    intro t ht
    refine Tot.step (fun _ => spec_reader_pick.j0.eq_2 ..) ?_
    simp only [e2]
    cases t with
    | true => exact Tot.pos rfl (Tot.now ⟨rfl, Int.le_refl _, .inr rfl⟩)
    | false =>
      obtain ⟨hn1, hne⟩ := ht rfl
      refine Tot.neg (by simp) ?_
      by_cases hlt : p < (b.length : Int)
      · refine Tot.pos hlt (Tot.pos hp (Tot.neg (by omega) ?_))
        have hr := hb _ (rd_mem hp hlt)
        rw [w64 (x := rd b p) (by omega) (by omega), tmod_nn hr.1]
        exact Tot.now ⟨rfl, Int.emod_nonneg _ (by omega), .inl (Int.emod_lt_of_pos _ (by omega))⟩
      · refine Tot.neg hlt (Tot.neg (by omega) ?_)
        have hlen : 0 < (b.length : Int) := by omega
        have i1 : 0 ≤ Int.tmod p b.length ∧ Int.tmod p b.length < b.length := by
          rw [tmod_nn hp]; exact ⟨Int.emod_nonneg _ (by omega), Int.emod_lt_of_pos _ hlen⟩
        have e3 : wrap64 (wrap64 (p * 7) + 3) = p * 7 + 3 := by
          rw [w64 (x := p * 7) (by omega) (by omega)]; exact w64 (by omega) (by omega)
        rw [e3]
        have i2 : 0 ≤ Int.tmod (p * 7 + 3) b.length ∧ Int.tmod (p * 7 + 3) b.length < b.length := by
          rw [tmod_nn (by omega)]; exact ⟨Int.emod_nonneg _ (by omega), Int.emod_lt_of_pos _ hlen⟩
        refine Tot.pos i1.1 (Tot.pos i1.2 (Tot.pos i2.1 (Tot.pos i2.2 (Tot.neg (by omega) ?_))))
        have hu := hb _ (rd_mem i1.1 i1.2)
        have hv := hb _ (rd_mem i2.1 i2.2)
        have hq : 0 ≤ Int.tdiv p b.length ∧ Int.tdiv p b.length ≤ p := by
          rw [tdiv_nn hp]
          exact ⟨Int.ediv_nonneg hp (by omega), Int.ediv_le_self _ hp⟩
        generalize rd b (Int.tmod p b.length) = u at hu ⊢
        generalize rd b (Int.tmod (p * 7 + 3) b.length) = v at hv ⊢
        generalize Int.tdiv p b.length = q at hq ⊢
        rw [w64 (x := u) (by omega) (by omega), w64 (x := v) (by omega) (by omega), w64 (x := q) (by omega) (by omega), w64 (x := u * 131) (by omega) (by omega), w64 (x := v * 1117) (by omega) (by omega), w64 (x := p * 29) (by omega) (by omega), w64 (x := q * 53) (by omega) (by omega),
          w64 (x := u * 131 + v * 1117) (by omega) (by omega), w64 (x := u * 131 + v * 1117 + p * 29) (by omega) (by omega), w64 (x := u * 131 + v * 1117 + p * 29 + q * 53) (by omega) (by omega)]
        have hx : 0 ≤ u * 131 + v * 1117 + p * 29 + q * 53 ∧ u * 131 + v * 1117 + p * 29 + q * 53 < 4611686018427387904 := by omega
        generalize u * 131 + v * 1117 + p * 29 + q * 53 = x at hx ⊢
        rw [tdiv_nn hx.1, w64 (x := x / 64) (by omega) (by omega)]
        have hz := xor_nn hx.1 hx.2 (b := x / 64) (by omega) (by omega)
        rw [tmod_nn hz]
        exact Tot.now ⟨rfl, Int.emod_nonneg _ (by omega), .inl (Int.emod_lt_of_pos _ (by omega))⟩
  unfold spec_reader_pick.f
  rw [e1]
  refine Tot.ite (fun _ => main true (fun h => by cases h)) (fun h => main _ (fun h2 => ⟨by omega, fun h3 => ?_⟩))
  rw [h3] at h2
  simp at h2
theorem one_tot {b : List Int} (hb : ∀ x ∈ b, 0 ≤ x ∧ x < 256) {p : Int} (hp : 0 ≤ p) (hp2 : p ≤ 1000000000) {l : List Int} (hl : 0 < l.length) (hl2 : l.length ≤ 1000) :
    Tot (fun k => spec_reader_one.f k b p l) (fun r => r.2 = p + 1 ∧ r.1 ∈ l) := by
  unfold spec_reader_one.f
  refine Tot.bind (pick_tot hb hp hp2 (by omega)) ?_
  rintro ⟨v, q⟩ ⟨h1, h2, h3⟩
  simp only at h1 h2 h3 ⊢
  have h4 : v < (l.length : Int) := by omega
  exact Tot.pos h2 (Tot.pos h4 (Tot.now ⟨h1, rd_mem h2 h4⟩))
theorem newReader_tot {l : List Int} (h : ∀ x ∈ l, (Lit.int .u8 x).wf = true) : ∃ b, spec_newReader.f l = some (b, 0) ∧ b.length ≤ 2000 ∧ ∀ x ∈ b, 0 ≤ x ∧ x < 256 := by
  unfold spec_newReader.f
  by_cases h1 : (l.length : Int) > 2000
  · rw [if_pos h1, if_pos (by omega)]
    exact ⟨_, rfl, by simp; omega, fun x hx => wf_u8 (h x (List.mem_of_mem_take hx))⟩
  · rw [if_neg h1]
    exact ⟨_, rfl, by omega, fun x hx => wf_u8 (h x hx)⟩
theorem someRate_tot {b : List Int} (hb : ∀ x ∈ b, 0 ≤ x ∧ x < 256) {p : Int} (hp : 0 ≤ p) (hp2 : p ≤ 1000000) :
    Tot (fun k => spec_someRate.f k b p) (fun r => (1 ≤ r.2.1 ∧ r.2.1 ≤ 1000) ∧ r.2.2 = p + 4) := by
  unfold spec_someRate.f
  refine Tot.bind (pick_tot hb hp (by omega) (by omega)) ?_
  rintro ⟨v, q⟩ ⟨h1, h2, h3⟩
  dsimp only at h1 h2 h3 ⊢
  rw [w64 (x := 1 + v) (by omega) (by omega)]
  refine Tot.bind (one_tot hb (by omega) (by omega) (by simp) (by simp)) ?_
  rintro ⟨den, q2⟩ ⟨h4, h5⟩
  simp only [List.mem_cons, List.not_mem_nil, or_false] at h4 h5 ⊢
  rw [w64 (x := den + 1) (by omega) (by omega)]
  refine Tot.bind (pick_tot hb (by omega) (by omega) (by omega)) ?_
  rintro ⟨num, q3⟩ ⟨h6, h7, h8⟩
  dsimp only at h6 h7 h8 ⊢
  refine Tot.bind (one_tot hb (by omega) (by omega) (by simp) (by simp)) ?_
  rintro ⟨num2, q4⟩ ⟨h9, h10⟩
  exact Tot.now ⟨by dsimp only; omega, by dsimp only at h9 ⊢; omega⟩
theorem anyRate_tot {b : List Int} (hb : ∀ x ∈ b, 0 ≤ x ∧ x < 256) {p : Int} (hp : 0 ≤ p) (hp2 : p ≤ 100000) :
    Tot (fun k => spec_anyRate.f k b p) (fun r => p ≤ r.2.2 ∧ r.2.2 ≤ p + 6) := by
  unfold spec_anyRate.f
  refine Tot.bind (someRate_tot hb hp (by omega)) ?_
  rintro ⟨num, den, q⟩ ⟨h1, h2⟩
  dsimp only at h1 h2 ⊢
  refine Tot.bind (pick_tot hb (by omega) (by omega) (by omega)) ?_
  rintro ⟨c, q2⟩ ⟨h3, h4, h5⟩
  dsimp only at h3 h4 h5 ⊢
  refine Tot.ite (fun _ => ?_) (fun _ => Tot.ite (fun _ => ?_) (fun _ => Tot.now ⟨by dsimp only; omega, by dsimp only; omega⟩))
  · refine Tot.bind (one_tot hb (by omega) (by omega) (by simp) (by simp)) ?_
    rintro ⟨x, q3⟩ ⟨h6, _⟩
    dsimp only at h6
    exact Tot.now ⟨by dsimp only; omega, by dsimp only; omega⟩
  · refine Tot.bind (one_tot hb (by omega) (by omega) (by simp) (by simp)) ?_
    rintro ⟨x, q3⟩ ⟨h6, _⟩
    dsimp only at h6
    exact Tot.now ⟨by dsimp only; omega, by dsimp only; omega⟩
/-- What anAmount draws. -/
def Amt (n : Int) : Prop := (∃ a : Int, 0 ≤ a ∧ a < 200 ∧ n = 10 * a) ∨ (0 ≤ n ∧ n < 250) ∨ n = 12345 ∨ n = 1000000 ∨ n = 999999 ∨ n = -1 ∨ n = 1000001 ∨ n = 90909
theorem anAmount_tot {b : List Int} (hb : ∀ x ∈ b, 0 ≤ x ∧ x < 256) {p : Int} (hp : 0 ≤ p) (hp2 : p ≤ 1000000) :
    Tot (fun k => spec_anAmount.f k b p) (fun r => r.2 = p + 3 ∧ Amt r.1) := by
  unfold spec_anAmount.f
  refine Tot.bind (pick_tot hb hp (by omega) (by omega)) ?_
  rintro ⟨v, q⟩ ⟨h1, h2, h3⟩
  simp only at h1 h2 h3 ⊢
  refine Tot.bind (pick_tot hb (by omega) (by omega) (by omega)) ?_
  rintro ⟨v2, q2⟩ ⟨g1, g2, g3⟩
  simp only at g1 g2 g3 ⊢
  refine Tot.bind (one_tot hb (by omega) (by omega) (by simp) (by simp)) ?_
  rintro ⟨v3, q3⟩ ⟨f1, f2⟩
  rw [w64 (x := 10 * v) (by omega) (by omega)] at f2
  simp only [List.mem_cons, List.not_mem_nil, or_false] at f1 f2 ⊢
  refine Tot.now ⟨by simp only; omega, ?_⟩
  show Amt v3
  unfold Amt
  rcases f2 with rfl | rfl | rfl | rfl | rfl | rfl | rfl | rfl | rfl | rfl | rfl | rfl
  · exact .inl ⟨100, by omega, by omega, rfl⟩
  · exact .inl ⟨v, by omega, by omega, rfl⟩
  all_goals omega
theorem drawOwed_tot {l : List Int} (hw : ∀ x ∈ l, (Lit.int .u8 x).wf = true) : Tot (fun k => spec_DrawOwedAfter.f k l) (fun _ => True) := by
  unfold spec_DrawOwedAfter.f
  obtain ⟨b, hb, hb2, hb3⟩ := newReader_tot hw
  rw [hb]
  refine Tot.known (Tot.bind (anAmount_tot hb3 (Int.le_refl _) (by omega)) ?_)
  rintro ⟨n, q⟩ ⟨h1, h2⟩
  dsimp only at h1 h2 ⊢
  refine Tot.bind (anyRate_tot hb3 (by omega) (by omega)) ?_
  rintro ⟨num, den, q2⟩ ⟨h3, h4⟩
  dsimp only at h3 h4 ⊢
  refine Tot.bind (one_tot hb3 (by omega) (by omega) (by simp) (by simp)) ?_
  rintro ⟨x, q3⟩ _
  exact Tot.now trivial
theorem implPayI_l0 {num den pay : Int} (hr : VR num den) (hp : 0 ≤ pay ∧ pay ≤ 1000000) : ∀ (c : Nat) (n : Int) (out : List Int) (s : Int), out.length + c = 60 → 0 ≤ n → n ≤ 1000000 → 0 ≤ s → s ≤ 1000000 * out.length →
    Tot (fun k => impl_payBack.l0 k n pay out s num den) (fun t => (∀ l, run num den pay c n = some l → t = (out ++ l, s + intr num den pay c n, true)) ∧ (run num den pay c n = none → t.2.2 = false)) := by
  intro c
  induction c with
  | zero =>
    intro n out s ho hn hn2 hs hs2
    refine Tot.step (fun _ => impl_payBack.l0.eq_2 ..) ?_
    have fin : Tot (fun k => impl_payBack.j2 k n pay out s false num den) (fun t => (∀ l, run num den pay 0 n = some l → t = (out ++ l, s + intr num den pay 0 n, true)) ∧ (run num den pay 0 n = none → t.2.2 = false)) := by
      refine Tot.step (fun _ => impl_payBack.j2.eq_2 ..) (Tot.neg (by simp) (Tot.now ⟨fun l h => ?_, fun h => (by rw [run] at h; cases h)⟩))
      rw [run] at h
      injection h with h
      rw [← h]; simp [intr]
    refine Tot.ite (fun _ => ?_) (fun _ => fin)
    have e : decide ((out.length : Int) < 60) = false := by simp; omega
    rw [e]
    exact fin
  | succ c ih =>
    intro n out s ho hn hn2 hs hs2
    refine Tot.step (fun _ => impl_payBack.l0.eq_2 ..) ?_
    refine Tot.ite (fun h0 => ?_) (fun h0 => ?_)
    · have e : decide ((out.length : Int) < 60) = true := by simp; omega
      rw [e]
      refine Tot.step (fun _ => impl_payBack.j2.eq_2 ..) (Tot.pos rfl ?_)
      rw [implRoundEven_eq, if_pos ⟨⟨hn, hn2⟩, hr⟩]
      simp only [Option.bind_some]
      have hv := ev_range (n := n) (num := num) (den := den) hr.1.1 hr.2.1 hr.2.2 hn
      have hx := nxt_range (n := n) (pay := pay) hr hn hn2 hp.1
      have en : mx (wrap64 (wrap64 (n + ev n num den) - pay)) 0 = nxt n num den pay := by
        rw [w64 (x := n + ev n num den) (by omega) (by omega), w64 (x := n + ev n num den - pay) (by omega) (by omega)]
        rfl
      rw [en, w64 (x := s + ev n num den) (by omega) (by omega)]
      refine Tot.ite (fun h1 => Tot.now ?_) (fun h1 => Tot.pos (by omega) ?_)
      · have : run num den pay (c + 1) n = none := by rw [run, if_neg (by omega), if_pos h1]
        rw [this]
        exact ⟨fun l h => (by cases h), fun _ => rfl⟩
      · refine (ih (nxt n num den pay) _ _ (by simp; omega) hx.1 (by omega) (by omega) (by simp; omega)).mono ?_
        rintro t ⟨t1, t2⟩
        have er : run num den pay (c + 1) n = (run num den pay c (nxt n num den pay)).map (fun l => nxt n num den pay :: l) := by rw [run, if_neg (by omega), if_neg h1]
        have ei : intr num den pay (c + 1) n = ev n num den + intr num den pay c (nxt n num den pay) := by rw [intr, if_neg (by omega)]
        rw [er, ei]
        rcases hrr : run num den pay c (nxt n num den pay) with _ | l2
        · exact ⟨fun l h => (by cases h), fun _ => t2 hrr⟩
        · refine ⟨fun l h => ?_, fun h => (by cases h)⟩
          simp only [Option.map_some] at h
          injection h with h
          rw [← h, t1 l2 hrr]
          simp [Int.add_assoc]
    · refine Tot.step (fun _ => impl_payBack.j2.eq_2 ..) (Tot.neg (by simp) (Tot.now ?_))
      have : run num den pay (c + 1) n = some [] := by rw [run, if_pos (by omega)]
      rw [this]
      refine ⟨fun l h => ?_, fun h => (by cases h)⟩
      injection h with h
      rw [← h, intr, if_pos (by omega)]; simp
/-- What InterestOf answers. -/
def IV (n num den pay : Int) : Int := if owedOK n num den pay then (match run num den pay 60 n with | none => -1 | some l => if las l > 0 then -1 else intr num den pay 60 n) else -1
theorem implPayI_tot (n num den pay : Int) : Tot (fun k => impl_payBack.f k n num den pay) (fun t => (owedOK n num den pay → (∀ l, run num den pay 60 n = some l → t = (l, intr num den pay 60 n, true)) ∧ (run num den pay 60 n = none → t.2.2 = false)) ∧ (¬ owedOK n num den pay → t.2.2 = false)) := by
  unfold impl_payBack.f
  rw [implValidPart_eq]
  simp only [Option.bind_some, decide_eq_true_eq]
  have bad : ¬ owedOK n num den pay → Tot (fun k => impl_payBack.j0 k n pay true num den) (fun t => (owedOK n num den pay → (∀ l, run num den pay 60 n = some l → t = (l, intr num den pay 60 n, true)) ∧ (run num den pay 60 n = none → t.2.2 = false)) ∧ (¬ owedOK n num den pay → t.2.2 = false)) := fun h =>
    Tot.step (fun _ => impl_payBack.j0.eq_2 ..) (Tot.pos rfl (Tot.now ⟨fun h2 => absurd h2 h, fun _ => rfl⟩))
  refine Tot.ite (fun h1 => Tot.ite (fun h2 => bad fun h => by have := h.2.2; omega) (fun h2 => ?_)) (fun h1 => bad fun h => h1 ⟨h.1, h.2.1⟩)
  by_cases h3 : pay > 1000000
  · rw [decide_eq_true h3]; exact bad fun h => by have := h.2.2; omega
  rw [decide_eq_false h3]
  have hok : owedOK n num den pay := ⟨h1.1, h1.2, by omega, by omega⟩
  refine Tot.step (fun _ => impl_payBack.j0.eq_2 ..) (Tot.neg (by simp) ((implPayI_l0 h1.2 ⟨by omega, by omega⟩ 60 n [] 0 rfl h1.1.1 h1.1.2 (Int.le_refl _) (by simp)).mono ?_))
  rintro t ⟨t1, t2⟩
  exact ⟨fun _ => ⟨fun l hl => by rw [t1 l hl]; simp, t2⟩, fun h => absurd hok h⟩
theorem implInterest_tot (n num den pay : Int) : Tot (fun k => impl_InterestOf.f k n num den pay) (fun t => t = IV n num den pay) := by
  unfold impl_InterestOf.f IV
  refine Tot.bind (implPayI_tot n num den pay) ?_
  rintro t ⟨t1, t2⟩
  by_cases h : owedOK n num den pay
  · rw [if_pos h]
    rcases hrr : run num den pay 60 n with _ | l
    · refine Tot.neg (by rw [(t1 h).2 hrr]; decide) (Tot.now rfl)
    · rw [(t1 h).1 l hrr]
      dsimp only
      refine Tot.pos rfl ?_
      have hl := run_len hrr
      cases l with
      | nil => exact Tot.neg (by simp) (Tot.now (by rw [las, if_neg (by omega)]))
      | cons x r =>
        have hpos : 1 ≤ (x :: r).length := by simp
        have e : wrap64 (((x :: r).length : Int) - 1) = (((x :: r).length - 1 : Nat) : Int) := by rw [w64 (by omega) (by omega)]; omega
        rw [e, rd_las _ (by simp)]
        refine Tot.pos (by omega) (Tot.pos (by omega) (Tot.pos (by omega) (Tot.ite (fun g => Tot.now (by rw [if_pos g])) (fun g => Tot.now (by rw [if_neg g])))))
  · rw [if_neg h]
    exact Tot.neg (by rw [t2 h]; decide) (Tot.now rfl)
theorem specSum_l0 {num den pay : Int} (hr : VR num den) (hp : 0 ≤ pay ∧ pay ≤ 1000000) {l : List Int} (hl : l.length ≤ 60) : ∀ (c i : Nat) (n s : Int), i ≤ 60 → 0 ≤ n → n ≤ 1000000 → 0 ≤ s → s ≤ 1000000 * i → run num den pay c n = some (l.drop i) →
    Tot (fun k => spec_InterestOf.l0 k l s n i num den) (fun t => t = s + intr num den pay c n) := by
  intro c
  induction c with
  | zero =>
    intro i n s hi hn hn2 hs hs2 h
    rw [run] at h
    injection h with h
    have := drop_nil h.symm
    exact Tot.step (fun _ => spec_InterestOf.l0.eq_2 ..) (Tot.neg (by omega) (Tot.now (by rw [intr]; omega)))
  | succ c ih =>
    intro i n s hi hn hn2 hs hs2 h
    rcases hd : l.drop i with _ | ⟨x, r⟩
    · have := drop_nil hd
      rw [hd] at h
      refine Tot.step (fun _ => spec_InterestOf.l0.eq_2 ..) (Tot.neg (by omega) (Tot.now ?_))
      have h0 : n ≤ 0 := by
        rw [run] at h
        by_cases h0 : n ≤ 0
        · exact h0
        · rw [if_neg h0] at h
          split at h
          · cases h
          · rcases hq : run num den pay c (nxt n num den pay) with _ | l4
            · rw [hq] at h; cases h
            · rw [hq] at h; cases h
      rw [intr, if_pos h0]; omega
    · rw [hd] at h
      obtain ⟨h0, h1, h2, h3⟩ := run_cons h
      obtain ⟨g1, g2, g3⟩ := drop_cons hd
      have hv := ev_range (n := n) (num := num) (den := den) hr.1.1 hr.2.1 hr.2.2 hn
      have hx := nxt_range (n := n) (pay := pay) hr hn hn2 hp.1
      refine Tot.step (fun _ => spec_InterestOf.l0.eq_2 ..) ?_
      rw [specEven_eq hn (by omega) hr, rd_at g3, w64s (by omega)]
      refine Tot.pos (by omega) (Tot.known (Tot.pos (by omega) ?_))
      rw [w64 (x := s + ev n num den) (by omega) (by omega)]
      refine ((ih (i + 1) x _ (by omega) (by omega) h2 (by omega) (by omega) (by rw [g2]; exact h3)).mono ?_)
      rintro t rfl
      rw [intr, if_neg (by omega), ← h1]; omega
theorem specInterest_tot (n num den pay : Int) : Tot (fun k => spec_InterestOf.f k n num den pay) (fun t => t = IV n num den pay) := by
  unfold spec_InterestOf.f IV
  rw [specValidLoan_eq]
  refine Tot.known (Tot.ite (fun h => ?_) (fun h => Tot.now (by rw [if_neg (by simpa using h)])))
  have h := of_decide_eq_true h
  have hbl := bal_len (num := num) (den := den) (pay := pay) (c := 60) (n := n)
  have hrun := bal_run h.2.1 h.2.2.1 (c := 60) h.1.1 h.1.2
  rw [if_pos h]
  refine Tot.bindv (specBalances_tot h) (Tot.bindv (allIn_tot (by omega)) ?_)
  have last : Tot (fun k => spec_InterestOf.j0 k n (bal num den pay 60 n) true num den) (fun t => t = -1) :=
    Tot.step (fun _ => spec_InterestOf.j0.eq_2 ..) (Tot.pos rfl (Tot.now rfl))
  refine Tot.ite (fun h2 => ?_) (fun h2 => ?_)
  · rw [if_pos (of_decide_eq_true h2)] at hrun
    rw [hrun]
    dsimp only
    have good : Tot (fun k => spec_InterestOf.j0 k n (bal num den pay 60 n) false num den) (fun t => t = intr num den pay 60 n) := by
      refine Tot.step (fun _ => spec_InterestOf.j0.eq_2 ..) (Tot.neg (by decide) ((specSum_l0 h.2.1 h.2.2 hbl 60 0 n 0 (by omega) h.1.1 h.1.2 (by omega) (by omega) hrun).mono ?_))
      rintro t rfl
      omega
    generalize hL : bal num den pay 60 n = L at hbl hrun last good
    refine Tot.ite (fun h3 => ?_) (fun h3 => ?_)
    · cases L with
      | nil =>
        rw [run, if_neg (by omega)] at hrun
        split at hrun
        · cases hrun
        · rcases hq : run num den pay 59 (nxt n num den pay) with _ | l4
          · rw [hq] at hrun; cases hrun
          · rw [hq] at hrun; cases hrun
      | cons x r =>
        have hpos : 1 ≤ (x :: r).length := by simp
        have e : wrap64 (((x :: r).length : Int) - 1) = (((x :: r).length - 1 : Nat) : Int) := by rw [w64 (by omega) (by omega)]; omega
        rw [e, rd_las _ (by simp)]
        refine Tot.pos (by omega) (Tot.pos (by omega) ?_)
        by_cases g : las (x :: r) > 0
        · rw [decide_eq_true g, if_pos g]; exact last
        · rw [decide_eq_false g, if_neg g]; exact good
    · have e : L = [] := by
        rw [run, if_pos (by omega)] at hrun
        injection hrun with hrun
        exact hrun.symm
      rw [e, las, if_neg (by omega)]
      rw [e] at good
      exact good
  · rw [if_neg (by simpa using h2)] at hrun
    rw [hrun]
    exact last
theorem FnInterestOf : laws_FnInterestOf.Pure := by
  intro l hl hl2 hw
  refine Tot.ends (g := fun k => laws_FnInterestOf.f k l) ?_
  unfold laws_FnInterestOf.f spec_DrawInterestOf.f
  refine Tot.ite (fun _ => Tot.now rfl) (fun _ => ?_)
  refine Tot.bind (P := fun _ => True) (Tot.bind (drawOwed_tot hw) (fun a _ => Tot.now trivial)) ?_
  rintro ⟨n, num, den, pay⟩ _
  dsimp only
  refine Tot.bindv (implInterest_tot n num den pay) (Tot.bindv (specInterest_tot n num den pay) (Tot.pos rfl (Tot.step (fun _ => laws_FnInterestOf.j0.eq_2 ..) ?_)))
  refine Tot.ite (fun h1 => Tot.bindv (specInterest_tot n num den pay) (Tot.now (by simp))) (fun h1 => ?_)
  have h1 : ¬ IV n num den pay < 0 := fun h => h1 (decide_eq_true h)
  have h : owedOK n num den pay := by
    rcases Classical.em (owedOK n num den pay) with h2 | h2
    · exact h2
    · exact absurd (by unfold IV; rw [if_neg h2]; omega) h1
  rcases hrn : run num den pay 60 n with _ | L
  · exact absurd (by unfold IV; rw [if_pos h, hrn]; exact (show (-1 : Int) < 0 from by omega)) h1
  have hIV : IV n num den pay = if las L > 0 then -1 else intr num den pay 60 n := by unfold IV; rw [if_pos h, hrn]
  have hla : ¬ las L > 0 := fun g => h1 (by rw [hIV, if_pos g]; omega)
  rw [if_neg hla] at hIV
  have eo : owed n num den pay = L := by unfold owed; rw [if_pos h, hrn]; rfl
  have hlen := run_len hrn
  rw [hIV]
  refine Tot.bindv (implOwedAfter_tot n num den pay) ?_
  rw [eo]
  refine Tot.ite (fun h0 => ?_) (fun h0 => ?_)
  · rw [h0, run, if_pos (by omega)] at hrn
    injection hrn with hrn
    rw [h0, intr_zero]
    exact Tot.pos rfl (Tot.now (by rw [← hrn]; rfl))
  · have hne : L ≠ [] := by
      intro e
      rw [e, run, if_neg (by have := h.1; omega)] at hrn
      split at hrn
      · cases hrn
      · rcases hq : run num den pay 59 (nxt n num den pay) with _ | l4
        · rw [hq] at hrn; cases hrn
        · rw [hq] at hrn; cases hrn
    have hp := h.2.2
    obtain ⟨e1, e2, e3, e4⟩ := intr_eq h.2.1 hp.1 60 n L h.1.1 h.1.2 hrn hne (by omega)
    have hpos : 1 ≤ L.length := by
      cases L with
      | nil => exact absurd rfl hne
      | cons x r => simp
    have hr := h.2.1
    have hv := ev_range (n := bef n L) (num := num) (den := den) hr.1.1 hr.2.1 hr.2.2 e3
    have m1 := Int.mul_nonneg (a := pay) (b := (L.length : Int) - 1) hp.1 (by omega)
    have m2 := Int.mul_le_mul (a := pay) (b := (L.length : Int) - 1) (c := 1000000) (d := 60) hp.2 (by omega) (by omega) (by omega)
    have hn := h.1
    have er := implRoundEven_eq (bef n L) num den
    rw [if_pos ⟨⟨e3, e4⟩, hr⟩] at er
    rw [w64 (x := (L.length : Int) - 1) (by omega) (by omega), w64 (x := pay * ((L.length : Int) - 1)) (by omega) (by omega)]
    refine Tot.ite (fun g => ?_) (fun g => ?_)
    · have e5 : wrap64 ((L.length : Int) - 2) = ((L.length - 2 : Nat) : Int) := by rw [w64 (by omega) (by omega)]; omega
      rw [e5, rd_bef L n (by omega), er]
      refine Tot.pos (by omega) (Tot.pos (by omega) (Tot.known ?_))
      rw [w64 (x := bef n L + ev (bef n L) num den) (by omega) (by omega), w64 (x := pay * ((L.length : Int) - 1) + (bef n L + ev (bef n L) num den)) (by omega) (by omega), w64 (x := pay * ((L.length : Int) - 1) + (bef n L + ev (bef n L) num den) - n) (by omega) (by omega)]
      exact Tot.pos e1 (Tot.now (decide_eq_true e2))
    · have eb : bef n L = n := by
        cases L with
        | nil => rfl
        | cons x r =>
          cases r with
          | nil => rfl
          | cons y r => exact absurd (by simp only [List.length_cons]; omega) g
      rw [eb] at e1 e2 e3 e4 hv er
      rw [er]
      refine Tot.known ?_
      rw [w64 (x := n + ev n num den) (by omega) (by omega), w64 (x := pay * ((L.length : Int) - 1) + (n + ev n num den)) (by omega) (by omega), w64 (x := pay * ((L.length : Int) - 1) + (n + ev n num den) - n) (by omega) (by omega)]
      exact Tot.pos e1 (Tot.now (decide_eq_true e2))
end Go.Proofs.Ytpbhpkgilkfckaa.Pure
