/- FnLeastPayOne: for every code, the least payment for one period is the amount with its interest, and for more periods it is not more. No condition beyond the statement's own. -/
import Derived.Test.YtpbhpkgilkfckaaPFnLeastPayOnex3
import Derived.Test.YtpbhpkgilkfckaaCore
namespace Go.Proofs.Ytpbhpkgilkfckaa.Pure
open Go.RowKit Go.Proofs.Ytpbhpkgilkfckaa.PFnLeastPayOne Go.Proofs.YtpbhpkgilkfckaaW.PrintWords
set_option linter.unusedSimpArgs false
set_option linter.unusedVariables false

/-! the reader -/
theorem pick_tot {b : List Int} (hb : ∀ x ∈ b, 0 ≤ x ∧ x < 256) {p n : Int} (hp : 0 ≤ p) (hp2 : p ≤ 1000000000) (hn : n ≤ 1000000000000) :
    Tot (fun k => spec_reader_pick.f k b p n) (fun r => r.2 = p + 1 ∧ 0 ≤ r.1 ∧ (r.1 < n ∨ r.1 = 0)) := by
  have e1 : wrap64 (p + 1) = p + 1 := w64 (by omega) (by omega)
  have e2 : wrap64 (p + 1 - 1) = p := by rw [w64 (by omega) (by omega)]; omega
  have main : ∀ t : Bool, (t = false → 1 ≤ n ∧ b.length ≠ 0) → Tot (fun k => spec_reader_pick.j0 k n t b (p + 1)) (fun r => r.2 = p + 1 ∧ 0 ≤ r.1 ∧ (r.1 < n ∨ r.1 = 0)) := by
    intro t ht
    refine Tot.step (fun _ => spec_reader_pick.j0.eq_2 ..) ?_
    simp only [e2]
    cases t with
    | true => exact Tot.pos rfl (Tot.now ⟨rfl, Int.le_refl _, .inr rfl⟩)
    | false =>
      obtain ⟨hn1, hne⟩ := ht rfl
      refine Tot.neg (by simp) ?_
      by_cases hlt : p < (b.length : Int)
      · refine Tot.pos hlt (Tot.pos hp (Tot.neg (by omega) ?_))
        have hr := hb _ (rd_mem hp hlt)
        rw [w64 (x := rd b p) (by omega) (by omega), tmod_nn hr.1]
        exact Tot.now ⟨rfl, Int.emod_nonneg _ (by omega), .inl (Int.emod_lt_of_pos _ (by omega))⟩
      · refine Tot.neg hlt (Tot.neg (by omega) ?_)
        have hlen : 0 < (b.length : Int) := by omega
        have i1 : 0 ≤ Int.tmod p b.length ∧ Int.tmod p b.length < b.length := by
          rw [tmod_nn hp]; exact ⟨Int.emod_nonneg _ (by omega), Int.emod_lt_of_pos _ hlen⟩
        have e3 : wrap64 (wrap64 (p * 7) + 3) = p * 7 + 3 := by
          rw [w64 (x := p * 7) (by omega) (by omega)]; exact w64 (by omega) (by omega)
        rw [e3]
        have i2 : 0 ≤ Int.tmod (p * 7 + 3) b.length ∧ Int.tmod (p * 7 + 3) b.length < b.length := by
          rw [tmod_nn (by omega)]; exact ⟨Int.emod_nonneg _ (by omega), Int.emod_lt_of_pos _ hlen⟩
        refine Tot.pos i1.1 (Tot.pos i1.2 (Tot.pos i2.1 (Tot.pos i2.2 (Tot.neg (by omega) ?_))))
        have hu := hb _ (rd_mem i1.1 i1.2)
        have hv := hb _ (rd_mem i2.1 i2.2)
        have hq : 0 ≤ Int.tdiv p b.length ∧ Int.tdiv p b.length ≤ p := by
          rw [tdiv_nn hp]
          exact ⟨Int.ediv_nonneg hp (by omega), Int.ediv_le_self _ hp⟩
        generalize rd b (Int.tmod p b.length) = u at hu ⊢
        generalize rd b (Int.tmod (p * 7 + 3) b.length) = v at hv ⊢
        generalize Int.tdiv p b.length = q at hq ⊢
        rw [w64 (x := u) (by omega) (by omega), w64 (x := v) (by omega) (by omega), w64 (x := q) (by omega) (by omega), w64 (x := u * 131) (by omega) (by omega), w64 (x := v * 1117) (by omega) (by omega), w64 (x := p * 29) (by omega) (by omega), w64 (x := q * 53) (by omega) (by omega),
          w64 (x := u * 131 + v * 1117) (by omega) (by omega), w64 (x := u * 131 + v * 1117 + p * 29) (by omega) (by omega), w64 (x := u * 131 + v * 1117 + p * 29 + q * 53) (by omega) (by omega)]
        have hx : 0 ≤ u * 131 + v * 1117 + p * 29 + q * 53 ∧ u * 131 + v * 1117 + p * 29 + q * 53 < 4611686018427387904 := by omega
        generalize u * 131 + v * 1117 + p * 29 + q * 53 = x at hx ⊢
        rw [tdiv_nn hx.1, w64 (x := x / 64) (by omega) (by omega)]
        have hz := xor_nn hx.1 hx.2 (b := x / 64) (by omega) (by omega)
        rw [tmod_nn hz]
        exact Tot.now ⟨rfl, Int.emod_nonneg _ (by omega), .inl (Int.emod_lt_of_pos _ (by omega))⟩
  unfold spec_reader_pick.f
  rw [e1]
  refine Tot.ite (fun _ => main true (fun h => by cases h)) (fun h => main _ (fun h2 => ⟨by omega, fun h3 => ?_⟩))
  rw [h3] at h2
  simp at h2
theorem one_tot {b : List Int} (hb : ∀ x ∈ b, 0 ≤ x ∧ x < 256) {p : Int} (hp : 0 ≤ p) (hp2 : p ≤ 1000000000) {l : List Int} (hl : 0 < l.length) (hl2 : l.length ≤ 1000) :
    Tot (fun k => spec_reader_one.f k b p l) (fun r => r.2 = p + 1 ∧ r.1 ∈ l) := by
  unfold spec_reader_one.f
  refine Tot.bind (pick_tot hb hp hp2 (by omega)) ?_
  rintro ⟨v, q⟩ ⟨h1, h2, h3⟩
  simp only at h1 h2 h3 ⊢
  have h4 : v < (l.length : Int) := by omega
  exact Tot.pos h2 (Tot.pos h4 (Tot.now ⟨h1, rd_mem h2 h4⟩))
theorem newReader_tot {l : List Int} (h : ∀ x ∈ l, (Lit.int .u8 x).wf = true) : ∃ b, spec_newReader.f l = some (b, 0) ∧ b.length ≤ 2000 ∧ ∀ x ∈ b, 0 ≤ x ∧ x < 256 := by
  unfold spec_newReader.f
  by_cases h1 : (l.length : Int) > 2000
  · rw [if_pos h1, if_pos (by omega)]
    exact ⟨_, rfl, by simp; omega, fun x hx => wf_u8 (h x (List.mem_of_mem_take hx))⟩
  · rw [if_neg h1]
    exact ⟨_, rfl, by omega, fun x hx => wf_u8 (h x hx)⟩
theorem someRate_tot {b : List Int} (hb : ∀ x ∈ b, 0 ≤ x ∧ x < 256) {p : Int} (hp : 0 ≤ p) (hp2 : p ≤ 1000000) :
    Tot (fun k => spec_someRate.f k b p) (fun r => (1 ≤ r.2.1 ∧ r.2.1 ≤ 1000) ∧ r.2.2 = p + 4) := by
  unfold spec_someRate.f
  refine Tot.bind (pick_tot hb hp (by omega) (by omega)) ?_
  rintro ⟨v, q⟩ ⟨h1, h2, h3⟩
  dsimp only at h1 h2 h3 ⊢
  rw [w64 (x := 1 + v) (by omega) (by omega)]
  refine Tot.bind (one_tot hb (by omega) (by omega) (by simp) (by simp)) ?_
  rintro ⟨den, q2⟩ ⟨h4, h5⟩
  simp only [List.mem_cons, List.not_mem_nil, or_false] at h4 h5 ⊢
  rw [w64 (x := den + 1) (by omega) (by omega)]
  refine Tot.bind (pick_tot hb (by omega) (by omega) (by omega)) ?_
  rintro ⟨num, q3⟩ ⟨h6, h7, h8⟩
  dsimp only at h6 h7 h8 ⊢
  refine Tot.bind (one_tot hb (by omega) (by omega) (by simp) (by simp)) ?_
  rintro ⟨num2, q4⟩ ⟨h9, h10⟩
  exact Tot.now ⟨by dsimp only; omega, by dsimp only at h9 ⊢; omega⟩
theorem anyRate_tot {b : List Int} (hb : ∀ x ∈ b, 0 ≤ x ∧ x < 256) {p : Int} (hp : 0 ≤ p) (hp2 : p ≤ 100000) :
    Tot (fun k => spec_anyRate.f k b p) (fun r => p ≤ r.2.2 ∧ r.2.2 ≤ p + 6) := by
  unfold spec_anyRate.f
  refine Tot.bind (someRate_tot hb hp (by omega)) ?_
  rintro ⟨num, den, q⟩ ⟨h1, h2⟩
  dsimp only at h1 h2 ⊢
  refine Tot.bind (pick_tot hb (by omega) (by omega) (by omega)) ?_
  rintro ⟨c, q2⟩ ⟨h3, h4, h5⟩
  dsimp only at h3 h4 h5 ⊢
  refine Tot.ite (fun _ => ?_) (fun _ => Tot.ite (fun _ => ?_) (fun _ => Tot.now ⟨by dsimp only; omega, by dsimp only; omega⟩))
  · refine Tot.bind (one_tot hb (by omega) (by omega) (by simp) (by simp)) ?_
    rintro ⟨x, q3⟩ ⟨h6, _⟩
    dsimp only at h6
    exact Tot.now ⟨by dsimp only; omega, by dsimp only; omega⟩
  · refine Tot.bind (one_tot hb (by omega) (by omega) (by simp) (by simp)) ?_
    rintro ⟨x, q3⟩ ⟨h6, _⟩
    dsimp only at h6
    exact Tot.now ⟨by dsimp only; omega, by dsimp only; omega⟩
/-- What anAmount draws. -/
def Amt (n : Int) : Prop := (∃ a : Int, 0 ≤ a ∧ a < 200 ∧ n = 10 * a) ∨ (0 ≤ n ∧ n < 250) ∨ n = 12345 ∨ n = 1000000 ∨ n = 999999 ∨ n = -1 ∨ n = 1000001 ∨ n = 90909
theorem anAmount_tot {b : List Int} (hb : ∀ x ∈ b, 0 ≤ x ∧ x < 256) {p : Int} (hp : 0 ≤ p) (hp2 : p ≤ 1000000) :
    Tot (fun k => spec_anAmount.f k b p) (fun r => r.2 = p + 3 ∧ Amt r.1) := by
  unfold spec_anAmount.f
  refine Tot.bind (pick_tot hb hp (by omega) (by omega)) ?_
  rintro ⟨v, q⟩ ⟨h1, h2, h3⟩
  simp only at h1 h2 h3 ⊢
  refine Tot.bind (pick_tot hb (by omega) (by omega) (by omega)) ?_
  rintro ⟨v2, q2⟩ ⟨g1, g2, g3⟩
  simp only at g1 g2 g3 ⊢
  refine Tot.bind (one_tot hb (by omega) (by omega) (by simp) (by simp)) ?_
  rintro ⟨v3, q3⟩ ⟨f1, f2⟩
  rw [w64 (x := 10 * v) (by omega) (by omega)] at f2
  simp only [List.mem_cons, List.not_mem_nil, or_false] at f1 f2 ⊢
  refine Tot.now ⟨by simp only; omega, ?_⟩
  show Amt v3
  unfold Amt
  rcases f2 with rfl | rfl | rfl | rfl | rfl | rfl | rfl | rfl | rfl | rfl | rfl | rfl
  · exact .inl ⟨100, by omega, by omega, rfl⟩
  · exact .inl ⟨v, by omega, by omega, rfl⟩
  all_goals omega
def sumL : List Int → Int
  | [] => 0
  | x :: r => x + sumL r
theorem sumL_bound {l : List Int} (h : ∀ x ∈ l, 0 ≤ x ∧ x ≤ 1000000) : 0 ≤ sumL l ∧ sumL l ≤ 1000000 * l.length := by
  induction l with
  | nil => simp [sumL]
  | cons x r ih =>
    have h1 := ih (fun y hy => h y (List.mem_cons_of_mem _ hy))
    have h2 := h x (by simp)
    simp only [sumL, List.length_cons]
    omega
/-- A valid body. -/
def VB (ws : List Int) (need : Int) : Prop := (1 ≤ ws.length ∧ ws.length ≤ 12) ∧ (∀ w ∈ ws, 0 ≤ w ∧ w ≤ 100) ∧ 1 ≤ need ∧ need ≤ sumL ws
instance (ws : List Int) (need : Int) : Decidable (VB ws need) := inferInstanceAs (Decidable ((1 ≤ ws.length ∧ ws.length ≤ 12) ∧ (∀ w ∈ ws, 0 ≤ w ∧ w ≤ 100) ∧ 1 ≤ need ∧ need ≤ sumL ws))
theorem dfalse {p : Prop} {i : Decidable p} (h : ¬ p) : false = @decide p i := by
  symm; rw [decide_eq_false_iff_not]; exact h
theorem dtrue {p : Prop} {i : Decidable p} (h : p) : true = @decide p i := by
  symm; rw [decide_eq_true_iff]; exact h
/-! rounding to the even number -/
def evP (P d : Int) : Int := if 2 * (P % d) > d ∨ (2 * (P % d) = d ∧ P / d % 2 = 1) then P / d + 1 else P / d
def ev (n num den : Int) : Int := evP (n * num) den
theorem div_uniq {a b q r : Int} (hb : 0 < b) (h : a = b * q + r) (h0 : 0 ≤ r) (h1 : r < b) : a / b = q ∧ a % b = r :=
  (Int.ediv_emod_unique hb).2 ⟨by omega, h0, h1⟩
theorem evP_near {P d : Int} (hd : 0 < d) : -d ≤ 2 * P - 2 * (d * evP P d) ∧ 2 * P - 2 * (d * evP P d) ≤ d := by
  have h1 := Int.mul_ediv_add_emod P d
  have h2 := Int.emod_nonneg P (show d ≠ 0 by omega)
  have h3 := Int.emod_lt_of_pos P hd
  unfold evP
  split
  · rw [Int.mul_add, Int.mul_one]
    omega
  · omega
theorem evP_mono {P Q d : Int} (hd : 0 < d) (h : P ≤ Q) : evP P d ≤ evP Q d := by
  rcases Int.lt_or_eq_of_le h with h1 | h1
  · rcases Int.lt_or_le (evP Q d) (evP P d) with h2 | h2
    · have a := evP_near (P := P) hd
      have b := evP_near (P := Q) hd
      have c := Int.mul_le_mul_of_nonneg_left (show evP Q d + 1 ≤ evP P d by omega) (show 0 ≤ d by omega)
      rw [Int.mul_add, Int.mul_one] at c
      omega
    · exact h2
  · rw [h1]; exact Int.le_refl _
theorem evP_zero {d : Int} (hd : 0 < d) : evP 0 d = 0 := by
  unfold evP
  simp
  omega
theorem ev_mono {m n num den : Int} (hd : 1 ≤ den) (h0 : 0 ≤ num) (h : m ≤ n) : ev m num den ≤ ev n num den :=
  evP_mono (by omega) (Int.mul_le_mul_of_nonneg_right h h0)
theorem ev_range {n num den : Int} (hd : 1 ≤ den) (h0 : 0 ≤ num) (h1 : num ≤ den) (hn : 0 ≤ n) : 0 ≤ ev n num den ∧ ev n num den ≤ n := by
  have hz := ev_mono (m := 0) (n := n) hd h0 hn
  have e0 : ev 0 num den = 0 := by unfold ev; rw [Int.zero_mul]; exact evP_zero (by omega)
  refine ⟨by omega, ?_⟩
  rcases Int.lt_or_le n (ev n num den) with h2 | h2
  · have a := evP_near (P := n * num) (d := den) (by omega)
    have b := Int.mul_le_mul_of_nonneg_left h1 hn
    have c := Int.mul_le_mul_of_nonneg_left (show n + 1 ≤ ev n num den by omega) (show 0 ≤ den by omega)
    rw [Int.mul_add, Int.mul_one, Int.mul_comm den n] at c
    unfold ev at c
    omega
  · exact h2
theorem prod_range {n num : Int} (hn : 0 ≤ n) (hn2 : n ≤ 2000000) (h0 : 0 ≤ num) (h1 : num ≤ 1000) : 0 ≤ n * num ∧ n * num ≤ 2000000000 := by
  refine ⟨Int.mul_nonneg hn h0, ?_⟩
  have := Int.mul_le_mul hn2 h1 h0 (by omega)
  omega
def VR (num den : Int) : Prop := (1 ≤ den ∧ den ≤ 1000) ∧ 0 ≤ num ∧ num ≤ den
instance (num den : Int) : Decidable (VR num den) := inferInstanceAs (Decidable ((1 ≤ den ∧ den ≤ 1000) ∧ 0 ≤ num ∧ num ≤ den))
theorem implValidPart_eq (n num den : Int) : impl_validPart.f n num den = some (decide ((0 ≤ n ∧ n ≤ 1000000) ∧ VR num den)) := by
  unfold impl_validPart.f impl_ValidRate.f
  by_cases h1 : n ≥ 0
  · by_cases h2 : n ≤ 1000000
    · rw [if_pos h1, if_pos h2]
      by_cases h3 : den ≥ 1
      · by_cases h4 : den ≤ 1000
        · by_cases h5 : num ≥ 0
          · rw [if_pos h3, if_pos h4, if_pos h5]
            simp only [Option.bind_some]
            congr 1
            rw [decide_eq_decide]
            exact ⟨fun h => ⟨⟨h1, h2⟩, ⟨h3, h4⟩, h5, h⟩, fun h => h.2.2.2⟩
          · rw [if_pos h3, if_pos h4, if_neg h5]
            simp only [Option.bind_some]
            congr 1
            exact dfalse fun h => h5 h.2.2.1
        · rw [if_pos h3, if_neg h4]
          simp only [Option.bind_some]
          congr 1
          exact dfalse fun h => h4 h.2.1.2
      · rw [if_neg h3]
        simp only [Option.bind_some]
        congr 1
        exact dfalse fun h => h3 h.2.1.1
    · rw [if_pos h1, if_neg h2]
      congr 1
      exact dfalse fun h => h2 h.1.2
  · rw [if_neg h1]
    congr 1
    exact dfalse fun h => h1 h.1.1
theorem implRoundEven_eq (n num den : Int) : impl_RoundEven.f n num den = some (if (0 ≤ n ∧ n ≤ 1000000) ∧ VR num den then ev n num den else -1) := by
  unfold impl_RoundEven.f
  rw [implValidPart_eq]
  simp only [Option.bind_some, decide_eq_true_eq]
  by_cases h : (0 ≤ n ∧ n ≤ 1000000) ∧ VR num den
  · have hr := h.2
    unfold VR at hr
    have hp := prod_range (n := n) (num := num) h.1.1 (by omega) (by omega) (by omega)
    have h2 := Int.emod_nonneg (n * num) (show den ≠ 0 by omega)
    have h3 := Int.emod_lt_of_pos (n * num) (show 0 < den by omega)
    have h4 : 0 ≤ n * num / den := Int.ediv_nonneg hp.1 (by omega)
    have h5 : n * num / den ≤ n * num := Int.ediv_le_self _ hp.1
    rw [if_pos h, if_pos h, if_neg (by omega)]
    rw [w64 (x := n * num) (by omega) (by omega), tmod_nn hp.1, tdiv_nn hp.1, w64 (x := 2 * (n * num % den)) (by omega) (by omega), w64 (x := n * num / den) (by omega) (by omega), tmod_nn h4, w64 (x := n * num / den + 1) (by omega) (by omega)]
    unfold ev evP
    by_cases c1 : 2 * (n * num % den) > den
    · rw [if_pos c1, if_pos (.inl c1)]
    · by_cases c2 : 2 * (n * num % den) = den
      · by_cases c3 : n * num / den % 2 = 1
        · rw [if_neg c1, if_pos c2, if_pos c3, if_pos (.inr ⟨c2, c3⟩)]
        · rw [if_neg c1, if_pos c2, if_neg c3, if_neg (by rintro (h6 | h6); exact c1 h6; exact c3 h6.2)]
      · rw [if_neg c1, if_neg c2, if_neg (by rintro (h6 | h6); exact c1 h6; exact c2 h6.1)]
  · rw [if_neg h, if_neg h]
theorem inRange_eq (a b c : Int) : spec_inRange.f a b c = some (decide (b ≤ a ∧ a ≤ c)) := by
  unfold spec_inRange.f
  by_cases h : b ≤ a
  · rw [if_pos h]; simp [h]
  · rw [if_neg h]; simp [h]
theorem specValidRate_eq (num den : Int) : spec_validRate.f num den = some (decide (VR num den)) := by
  unfold spec_validRate.f
  simp only [inRange_eq, Option.bind_some, decide_eq_true_eq]
  by_cases h : 1 ≤ den ∧ den ≤ 1000
  · rw [if_pos h]
    congr 1
    rw [decide_eq_decide]
    exact ⟨fun h2 => ⟨h, h2⟩, fun h2 => h2.2⟩
  · rw [if_neg h]
    congr 1
    exact dfalse fun h2 => h h2.1
theorem specEven_eq {n num den : Int} (hn : 0 ≤ n) (hn2 : n ≤ 2000000) (hr : VR num den) : spec_even.f n num den = some (ev n num den) := by
  unfold spec_even.f spec_near.f
  unfold VR at hr
  have hp := prod_range (n := n) (num := num) hn hn2 (by omega) (by omega)
  have e2 : 2 * n * num = 2 * (n * num) := Int.mul_assoc 2 n num
  rw [w64 (x := 2 * den) (by omega) (by omega), w64 (x := 2 * n) (by omega) (by omega), e2]
  unfold ev evP
  generalize n * num = P at hp ⊢
  have h1 := Int.mul_ediv_add_emod P den
  have h2 := Int.emod_nonneg P (show den ≠ 0 by omega)
  have h3 := Int.emod_lt_of_pos P (show 0 < den by omega)
  have h4 : 0 ≤ P / den := Int.ediv_nonneg hp.1 (by omega)
  have h5 : P / den ≤ P := Int.ediv_le_self _ hp.1
  generalize P / den = q at h1 h4 h5 ⊢
  generalize P % den = r at h1 h2 h3 ⊢
  rw [if_neg (by omega), w64 (x := 2 * P) (by omega) (by omega), w64 (x := 2 * P + den) (by omega) (by omega), tdiv_nn (by omega : 0 ≤ 2 * P + den), tmod_nn (by omega : 0 ≤ 2 * P), tdiv_nn (by omega : 0 ≤ 2 * P)]
  have m1 : 2 * den * q = 2 * (den * q) := Int.mul_assoc 2 den q
  have m2 : 2 * den * (q + 1) = 2 * (den * q) + 2 * den := by rw [Int.mul_add, m1, Int.mul_one]
  have m3 : den * (2 * q) = 2 * (den * q) := by rw [← Int.mul_assoc, Int.mul_comm den 2, Int.mul_assoc]
  have m4 : den * (2 * q + 1) = 2 * (den * q) + den := by rw [Int.mul_add, m3, Int.mul_one]
  by_cases c1 : 2 * r > den
  · obtain ⟨a1, _⟩ := div_uniq (a := 2 * P + den) (b := 2 * den) (q := q + 1) (r := 2 * r - den) (by omega) (by omega) (by omega) (by omega)
    obtain ⟨a2, a3⟩ := div_uniq (a := 2 * P) (b := den) (q := 2 * q + 1) (r := 2 * r - den) (by omega) (by omega) (by omega) (by omega)
    rw [a1, w64 (x := q + 1) (by omega) (by omega), a3, if_pos (.inl c1)]
    simp only [Option.bind_some]
    rw [if_neg (by omega), if_neg (by omega)]
  · by_cases c2 : 2 * r = den
    · obtain ⟨a1, _⟩ := div_uniq (a := 2 * P + den) (b := 2 * den) (q := q + 1) (r := 0) (by omega) (by omega) (by omega) (by omega)
      obtain ⟨a2, a3⟩ := div_uniq (a := 2 * P) (b := den) (q := 2 * q + 1) (r := 0) (by omega) (by omega) (by omega) (by omega)
      rw [a1, w64 (x := q + 1) (by omega) (by omega), a3, a2, w64 (x := 2 * q + 1) (by omega) (by omega), tmod_nn (by omega : 0 ≤ 2 * q + 1)]
      simp only [Option.bind_some]
      rw [if_neg (by omega), if_pos trivial, if_pos (by omega), tmod_nn (by omega : 0 ≤ q + 1)]
      by_cases c3 : q % 2 = 1
      · rw [if_neg (by omega), if_pos (.inr ⟨c2, c3⟩)]
      · rw [if_pos (by omega), if_neg (by rintro (h6 | h6); exact c1 h6; exact c3 h6.2), w64 (x := q + 1 - 1) (by omega) (by omega)]
        congr 1; omega
    · have hq : 2 * r < den := by omega
      obtain ⟨a1, _⟩ := div_uniq (a := 2 * P + den) (b := 2 * den) (q := q) (r := 2 * r + den) (by omega) (by omega) (by omega) (by omega)
      obtain ⟨a2, a3⟩ := div_uniq (a := 2 * P) (b := den) (q := 2 * q) (r := 2 * r) (by omega) (by omega) (by omega) (by omega)
      rw [a1, w64 (x := q) (by omega) (by omega), a3, a2, w64 (x := 2 * q) (by omega) (by omega), tmod_nn (by omega : 0 ≤ 2 * q)]
      rw [if_neg (show ¬ (2 * r > den ∨ (2 * r = den ∧ q % 2 = 1)) by omega)]
      simp only [Option.bind_some]
      rw [if_neg (by omega)]
      by_cases c4 : 2 * r = 0
      · rw [if_pos c4, if_neg (by omega)]
      · rw [if_neg c4]
/-! whether a loan is paid back in some periods -/
def paid (num den pay : Int) : Nat → Int → Bool
  | 0, n => decide (n ≤ 0)
  | c + 1, n => if n ≤ 0 then true else paid num den pay c (n + ev n num den - pay)
theorem paid_low {num den pay : Int} {c : Nat} {n : Int} (h : n ≤ 0) : paid num den pay c n = true := by
  cases c with
  | zero => rw [paid]; exact decide_eq_true h
  | succ c => rw [paid, if_pos h]
theorem paid_stuck {num den pay : Int} (hr : VR num den) : ∀ (c : Nat) (n : Int), 0 < n → pay ≤ ev n num den → paid num den pay c n = false := by
  intro c
  induction c with
  | zero => intro n hn _; rw [paid]; exact decide_eq_false (by omega)
  | succ c ih =>
    intro n hn hp
    rw [paid, if_neg (by omega)]
    have hm := ev_mono (m := n) (n := n + ev n num den - pay) (num := num) (den := den) hr.1.1 hr.2.1 (by omega)
    exact ih _ (by omega) (by omega)
theorem paid_mono {num den p q : Int} (hr : VR num den) (hpq : p ≤ q) : ∀ (c : Nat) (n m : Int), m ≤ n → paid num den p c n = true → paid num den q c m = true := by
  intro c
  induction c with
  | zero =>
    intro n m hm h
    rw [paid] at h ⊢
    have := of_decide_eq_true h
    exact decide_eq_true (by omega)
  | succ c ih =>
    intro n m hm h
    by_cases h0 : m ≤ 0
    · exact paid_low h0
    · rw [paid, if_neg (by omega)] at h
      rw [paid, if_neg h0]
      have hv := ev_mono (m := m) (n := n) (num := num) (den := den) hr.1.1 hr.2.1 hm
      exact ih _ _ (by omega) h
theorem paid_more {num den pay : Int} (c : Nat) (n : Int) (h : n + ev n num den ≤ pay) : paid num den pay (c + 1) n = true := by
  rw [paid]
  split
  · rfl
  · exact paid_low (by omega)
theorem Tot.bindv {α β : Type} {g : Nat → Option α} {F : Nat → α → Option β} {v : α} {Q : β → Prop} (h : Tot g (fun t => t = v)) (h2 : Tot (fun k => F k v) Q) : Tot (fun k => (g k).bind (F k)) Q :=
  Tot.bind h (fun a ha => by rw [ha]; exact h2)
theorem implPaid_l0 {num den pay : Int} (hr : VR num den) (hp : 0 ≤ pay) (hp2 : pay ≤ 2000000) {c : Nat} (hc : c ≤ 60) : ∀ (d i : Nat) (n : Int), i + d = c → 0 ≤ n → n ≤ 1000000 →
    Tot (fun k => impl_paidIn.l0 k n pay c i num den) (fun t => t = paid num den pay d n) := by
  intro d
  induction d with
  | zero =>
    intro i n hi hn hn2
    refine Tot.step (fun _ => impl_paidIn.l0.eq_2 ..) (Tot.neg (by omega) (Tot.now ?_))
    rw [paid]
    by_cases h : n = 0
    · rw [h]; rfl
    · rw [decide_eq_false (show ¬ n ≤ 0 by omega)]
      simpa using h
  | succ d ih =>
    intro i n hi hn hn2
    refine Tot.step (fun _ => impl_paidIn.l0.eq_2 ..) (Tot.pos (by omega) ?_)
    refine Tot.ite (fun h => Tot.now (by rw [paid_low (by omega)])) (fun h => ?_)
    rw [implRoundEven_eq, if_pos ⟨⟨hn, hn2⟩, hr⟩]
    refine Tot.known ?_
    have hv := ev_range (n := n) (num := num) (den := den) hr.1.1 hr.2.1 hr.2.2 hn
    rw [w64 (x := n + ev n num den) (by omega) (by omega), w64 (x := n + ev n num den - pay) (by omega) (by omega), w64s (by omega)]
    have em : mx (n + ev n num den - pay) 0 = if n + ev n num den - pay < 0 then 0 else n + ev n num den - pay := rfl
    rw [em]
    refine Tot.ite (fun h2 => Tot.now ?_) (fun h2 => ?_)
    · rw [paid_stuck hr (d + 1) n (by omega) (by split at h2 <;> omega)]
    · refine (ih (i + 1) _ (by omega) (by split <;> omega) (by split at h2 <;> split <;> omega)).mono ?_
      rintro t rfl
      have e : paid num den pay (d + 1) n = paid num den pay d (n + ev n num den - pay) := by rw [paid, if_neg (by omega)]
      rw [e]
      split
      · rw [paid_low (Int.le_refl _), paid_low (by omega)]
      · rfl
theorem specPaid_l0 {num den pay : Int} (hr : VR num den) (hp : 0 ≤ pay) (hp2 : pay ≤ 2000000) {c : Nat} (hc : c ≤ 60) : ∀ (d i : Nat) (n : Int), i + d = c → n ≤ 2000000 → (n ≤ 1000000 ∨ pay ≤ ev n num den) →
    Tot (fun k => spec_paidIn.l0 k n pay c i num den) (fun t => t = paid num den pay d n) := by
  intro d
  induction d with
  | zero =>
    intro i n hi hn hn2
    refine Tot.step (fun _ => spec_paidIn.l0.eq_2 ..) (Tot.neg (by omega) (Tot.step (fun _ => spec_paidIn.j1.eq_2 ..) (Tot.neg (by decide) (Tot.now ?_))))
    rw [paid]
  | succ d ih =>
    intro i n hi hn hn2
    refine Tot.step (fun _ => spec_paidIn.l0.eq_2 ..) (Tot.pos (by omega) (Tot.step (fun _ => spec_paidIn.j1.eq_2 ..) ?_))
    refine Tot.ite (fun h => ?_) (fun h => Tot.now ?_)
    · have h0 := of_decide_eq_true h
      have hv := ev_range (n := n) (num := num) (den := den) hr.1.1 hr.2.1 hr.2.2 (by omega)
      rw [specEven_eq (by omega) hn hr]
      refine Tot.known ?_
      rw [w64 (x := n + ev n num den) (by omega) (by omega), w64 (x := n + ev n num den - pay) (by omega) (by omega), w64s (by omega)]
      refine Tot.ite (fun h2 => Tot.now ?_) (fun h2 => ?_)
      · rw [paid_stuck hr (d + 1) n (by omega) (by omega)]
      · have hm : pay ≤ ev n num den → ev n num den ≤ ev (n + ev n num den - pay) num den := fun hq => ev_mono hr.1.1 hr.2.1 (by omega)
        refine (ih (i + 1) _ (by omega) (by omega) (by
          rcases Int.lt_or_le (ev n num den) pay with hq | hq
          · left; omega
          · right; have := hm hq; omega)).mono ?_
        rintro t rfl
        rw [paid, if_neg (by omega)]
    · have h0 : n ≤ 0 := by
        rcases Int.lt_or_le 0 n with hq | hq
        · exact absurd (decide_eq_true hq) h
        · exact hq
      rw [paid_low h0]
      exact decide_eq_true h0
/-- v is the least payment. -/
def IsL (num den : Int) (c : Nat) (n v : Int) : Prop := 0 ≤ v ∧ v ≤ 2000000 ∧ paid num den v c n = true ∧ ∀ p, 0 ≤ p → p < v → paid num den p c n = false
theorem IsL.uniq {num den : Int} {c : Nat} {n v u : Int} (h : IsL num den c n v) (h2 : IsL num den c n u) : v = u := by
  rcases Int.lt_trichotomy v u with h3 | h3 | h3
  · have a := h2.2.2.2 v h.1 h3
    rw [h.2.2.1] at a; cases a
  · exact h3
  · have a := h.2.2.2 u h2.1 h3
    rw [h2.2.2.1] at a; cases a
def okL (n num den c : Int) : Prop := ((0 ≤ n ∧ n ≤ 1000000) ∧ VR num den) ∧ 1 ≤ c ∧ c ≤ 60
theorem half {a b : Int} (ha : 0 ≤ a) (hab : a < b) (hb : b ≤ 2000000) : wrap64 (Int.tdiv (wrap64 (a + b)) 2) = (a + b) / 2 ∧ a ≤ (a + b) / 2 ∧ (a + b) / 2 < b := by
  rw [w64 (x := a + b) (by omega) (by omega), tdiv_nn (by omega : 0 ≤ a + b), w64 (x := (a + b) / 2) (by omega) (by omega)]
  exact ⟨rfl, by omega, by omega⟩
theorem implLeast_l0 {num den : Int} (hr : VR num den) {c : Nat} (hc : c ≤ 60) {n : Int} (hn : 0 ≤ n) (hn2 : n ≤ 1000000) : ∀ (d : Nat) (a b : Int), b - a ≤ d → 0 ≤ a → a ≤ b → b ≤ 2000000 → paid num den b c n = true → (∀ p, 0 ≤ p → p < a → paid num den p c n = false) →
    Tot (fun k => impl_LeastPay.l0 k n c a b num den) (IsL num den c n) := by
  intro d
  induction d with
  | zero =>
    intro a b h ha hab hb h1 h2
    have e : a = b := by omega
    exact Tot.step (fun _ => impl_LeastPay.l0.eq_2 ..) (Tot.neg (by omega) (Tot.now ⟨ha, by omega, by rw [e]; exact h1, h2⟩))
  | succ d ih =>
    intro a b h ha hab hb h1 h2
    refine Tot.step (fun _ => impl_LeastPay.l0.eq_2 ..) (Tot.ite (fun hlt => ?_) (fun hlt => ?_))
    · obtain ⟨e, g1, g2⟩ := half ha hlt hb
      rw [e]
      refine Tot.bindv (implPaid_l0 hr (by omega) (by omega) hc c 0 n (by omega) hn hn2) ?_
      by_cases hq : paid num den ((a + b) / 2) c n = true
      · exact Tot.pos hq (ih _ _ (by omega) ha g1 (by omega) hq h2)
      · rw [w64 (x := (a + b) / 2 + 1) (by omega) (by omega)]
        refine Tot.neg hq (ih _ _ (by omega) (by omega) (by omega) hb h1 (fun p hp hp2 => ?_))
        cases hz : paid num den p c n with
        | false => rfl
        | true => exact absurd (paid_mono hr (by omega) c n n (Int.le_refl _) hz) hq
    · have e : a = b := by omega
      exact Tot.now ⟨ha, by omega, by rw [e]; exact h1, h2⟩
theorem specLeast_l0 {num den : Int} (hr : VR num den) {c : Nat} (hc : c ≤ 60) {n : Int} (hn : 0 ≤ n) (hn2 : n ≤ 1000000) : ∀ (d : Nat) (a b : Int), b - a ≤ d → 0 ≤ a → a ≤ b → b ≤ 2000000 → paid num den b c n = true → (∀ p, 0 ≤ p → p < a → paid num den p c n = false) →
    Tot (fun k => spec_LeastPay.l0 k n c a b num den) (IsL num den c n) := by
  intro d
  induction d with
  | zero =>
    intro a b h ha hab hb h1 h2
    have e : a = b := by omega
    exact Tot.step (fun _ => spec_LeastPay.l0.eq_2 ..) (Tot.neg (by omega) (Tot.now ⟨ha, by omega, by rw [e]; exact h1, h2⟩))
  | succ d ih =>
    intro a b h ha hab hb h1 h2
    refine Tot.step (fun _ => spec_LeastPay.l0.eq_2 ..) (Tot.ite (fun hlt => ?_) (fun hlt => ?_))
    · obtain ⟨e, g1, g2⟩ := half ha hlt hb
      rw [e]
      refine Tot.bindv (specPaid_l0 hr (by omega) (by omega) hc c 0 n (by omega) (by omega) (.inl hn2)) ?_
      by_cases hq : paid num den ((a + b) / 2) c n = true
      · exact Tot.pos hq (ih _ _ (by omega) ha g1 (by omega) hq h2)
      · rw [w64 (x := (a + b) / 2 + 1) (by omega) (by omega)]
        refine Tot.neg hq (ih _ _ (by omega) (by omega) (by omega) hb h1 (fun p hp hp2 => ?_))
        cases hz : paid num den p c n with
        | false => rfl
        | true => exact absurd (paid_mono hr (by omega) c n n (Int.le_refl _) hz) hq
    · have e : a = b := by omega
      exact Tot.now ⟨ha, by omega, by rw [e]; exact h1, h2⟩
theorem paid_all {num den : Int} (hr : VR num den) {c : Nat} (hc : 1 ≤ c) {n : Int} (hn : 0 ≤ n) (hn2 : n ≤ 1000000) : paid num den 2000000 c n = true := by
  obtain ⟨m, rfl⟩ : ∃ m, c = m + 1 := ⟨c - 1, by omega⟩
  have hv := ev_range (n := n) (num := num) (den := den) hr.1.1 hr.2.1 hr.2.2 hn
  exact paid_more m n (by omega)
theorem implLeast_tot (n num den c : Int) : Tot (fun k => impl_LeastPay.f k n num den c) (fun t => (okL n num den c → IsL num den c.toNat n t) ∧ (¬ okL n num den c → t = -1)) := by
  unfold impl_LeastPay.f
  rw [implValidPart_eq]
  refine Tot.known ?_
  have bad : ¬ okL n num den c → Tot (fun k => impl_LeastPay.j0 k n c true num den) (fun t => (okL n num den c → IsL num den c.toNat n t) ∧ (¬ okL n num den c → t = -1)) := fun h =>
    Tot.step (fun _ => impl_LeastPay.j0.eq_2 ..) (Tot.pos rfl (Tot.now ⟨fun h2 => absurd h2 h, fun _ => rfl⟩))
  refine Tot.ite (fun h1 => Tot.ite (fun h2 => bad fun h => by have := h.2; omega) (fun h2 => ?_)) (fun h1 => bad fun h => h1 (decide_eq_true h.1))
  have h1 := of_decide_eq_true h1
  by_cases h3 : c > 60
  · rw [decide_eq_true h3]; exact bad fun h => by have := h.2; omega
  rw [decide_eq_false h3]
  have hok : okL n num den c := ⟨h1, by omega, by omega⟩
  refine Tot.step (fun _ => impl_LeastPay.j0.eq_2 ..) (Tot.neg (by decide) ?_)
  obtain ⟨m, rfl⟩ := Int.eq_ofNat_of_zero_le (show 0 ≤ c by omega)
  refine (implLeast_l0 h1.2 (c := m) (by omega) h1.1.1 h1.1.2 2000000 0 2000000 (by omega) (by omega) (by omega) (by omega) (paid_all h1.2 (by omega) h1.1.1 h1.1.2) (fun p hp hp2 => by omega)).mono ?_
  intro t ht
  exact ⟨fun _ => ht, fun h => absurd hok h⟩
theorem specLeast_tot (n num den c : Int) : Tot (fun k => spec_LeastPay.f k n num den c) (fun t => (okL n num den c → IsL num den c.toNat n t) ∧ (¬ okL n num den c → t = -1)) := by
  unfold spec_LeastPay.f spec_validAmount.f
  simp only [inRange_eq, specValidRate_eq]
  have bad : ¬ okL n num den c → Tot (fun k => spec_LeastPay.j0 k n c true num den) (fun t => (okL n num den c → IsL num den c.toNat n t) ∧ (¬ okL n num den c → t = -1)) := fun h =>
    Tot.step (fun _ => spec_LeastPay.j0.eq_2 ..) (Tot.pos rfl (Tot.now ⟨fun h2 => absurd h2 h, fun _ => rfl⟩))
  refine Tot.known (Tot.ite (fun h0 => Tot.known (Tot.ite (fun h1 => Tot.known ?_) (fun h1 => bad fun h => h1 (decide_eq_true h.1.2)))) (fun h0 => bad fun h => h0 (decide_eq_true h.1.1)))
  have h1 : (0 ≤ n ∧ n ≤ 1000000) ∧ VR num den := ⟨of_decide_eq_true h0, of_decide_eq_true h1⟩
  by_cases h3 : 1 ≤ c ∧ c ≤ 60
  · rw [decide_eq_true h3]
    have hok : okL n num den c := ⟨h1, h3⟩
    refine Tot.step (fun _ => spec_LeastPay.j0.eq_2 ..) (Tot.neg (by decide) ?_)
    obtain ⟨m, rfl⟩ := Int.eq_ofNat_of_zero_le (show 0 ≤ c by omega)
    refine (specLeast_l0 h1.2 (c := m) (by omega) h1.1.1 h1.1.2 2000000 0 2000000 (by omega) (by omega) (by omega) (by omega) (paid_all h1.2 (by omega) h1.1.1 h1.1.2) (fun p hp hp2 => by omega)).mono ?_
    intro t ht
    exact ⟨fun _ => ht, fun h => absurd hok h⟩
  · rw [decide_eq_false h3]
    exact bad fun h => h3 h.2
theorem drawLeast_tot {l : List Int} (hw : ∀ x ∈ l, (Lit.int .u8 x).wf = true) : Tot (fun k => spec_DrawLeastPay.f k l) (fun _ => True) := by
  unfold spec_DrawLeastPay.f
  obtain ⟨b, hb, hb2, hb3⟩ := newReader_tot hw
  rw [hb]
  refine Tot.known (Tot.bind (anAmount_tot hb3 (Int.le_refl _) (by omega)) ?_)
  rintro ⟨n, q⟩ ⟨h1, h2⟩
  dsimp only at h1 h2 ⊢
  refine Tot.bind (anyRate_tot hb3 (by omega) (by omega)) ?_
  rintro ⟨num, den, q2⟩ ⟨h3, h4⟩
  dsimp only at h3 h4 ⊢
  refine Tot.bind (one_tot hb3 (by omega) (by omega) (by simp) (by simp)) ?_
  rintro ⟨x, q3⟩ _
  exact Tot.now trivial
theorem one_least {n num den : Int} (hr : VR num den) (hn : 0 ≤ n) (hn2 : n ≤ 1000000) : IsL num den 1 n (n + ev n num den) := by
  have hv := ev_range (n := n) (num := num) (den := den) hr.1.1 hr.2.1 hr.2.2 hn
  refine ⟨by omega, by omega, paid_more 0 n (Int.le_refl _), fun p hp hp2 => ?_⟩
  have hn0 : ¬ n ≤ 0 := by omega
  rw [paid, if_neg hn0, paid]
  exact decide_eq_false (by omega)
theorem FnLeastPayOne : laws_FnLeastPayOne.Pure := by
  intro l hl hl2 hw
  refine Tot.ends (g := fun k => laws_FnLeastPayOne.f k l) ?_
  unfold laws_FnLeastPayOne.f
  refine Tot.ite (fun _ => Tot.now rfl) (fun _ => ?_)
  refine Tot.bind (drawLeast_tot hw) ?_
  rintro ⟨n, num, den, c⟩ _
  dsimp only
  refine Tot.bind (implLeast_tot n num den c) ?_
  rintro a ⟨a1, a2⟩
  refine Tot.bind (specLeast_tot n num den c) ?_
  rintro b ⟨b1, b2⟩
  have eab : a = b := by
    rcases Classical.em (okL n num den c) with h | h
    · exact (a1 h).uniq (b1 h)
    · rw [a2 h, b2 h]
  refine Tot.pos eab ?_
  by_cases h : okL n num den c
  · have ha := a1 h
    rw [decide_eq_false (show ¬ a < 0 by have := ha.1; omega)]
    refine Tot.step (fun _ => laws_FnLeastPayOne.j0.eq_2 ..) (Tot.neg (by decide) ?_)
    refine Tot.bind (implLeast_tot n num den 1) ?_
    rintro o ⟨o1, _⟩
    have hn := h.1.1
    have hr := h.1.2
    have hv := ev_range (n := n) (num := num) (den := den) hr.1.1 hr.2.1 hr.2.2 hn.1
    have eo : o = n + ev n num den := (o1 ⟨h.1, by omega, by omega⟩).uniq (one_least hr hn.1 hn.2)
    rw [implRoundEven_eq, if_pos h.1]
    refine Tot.known ?_
    rw [w64 (x := n + ev n num den) (by omega) (by omega)]
    have hc := h.2
    obtain ⟨m, hm⟩ : ∃ m, c.toNat = m + 1 := ⟨c.toNat - 1, by omega⟩
    have hle : a ≤ o := by
      rcases Int.lt_or_le o a with hq | hq
      · have h5 := ha.2.2.2 o (by omega) hq
        rw [hm, paid_more m n (by omega)] at h5
        cases h5
      · exact hq
    refine Tot.pos eo (Tot.pos hle (Tot.now ?_))
    by_cases h0 : n = 0
    · have : a = 0 := by
        rcases Int.lt_or_le 0 a with hq | hq
        · have h5 := ha.2.2.2 0 (by omega) hq
          rw [paid_low (by omega)] at h5
          cases h5
        · have := ha.1; omega
      rw [h0, this]; rfl
    · have : a ≠ 0 := by
        intro e
        have h5 := ha.2.2.1
        rw [e, paid_stuck hr c.toNat n (by omega) hv.1] at h5
        cases h5
      rw [show (n == 0) = false by simpa using h0, show (a == 0) = false by simpa using this]; rfl
  · rw [a2 h] at eab ⊢
    rw [decide_eq_true (by omega)]
    refine Tot.step (fun _ => laws_FnLeastPayOne.j0.eq_2 ..) (Tot.pos rfl ?_)
    refine Tot.bind (specLeast_tot n num den c) ?_
    rintro b' ⟨_, b3⟩
    exact Tot.now (by rw [b3 h]; rfl)
end Go.Proofs.Ytpbhpkgilkfckaa.Pure
