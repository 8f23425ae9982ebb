/- FnSwappedOf: for every code, each number with two digits exchanged has the same rest by nine and sum of digits, and another rest by eleven. No condition beyond the statement's own. -/
import Derived.Test.YtlkcblhagcgboaaPFnSwappedOfx3
import Derived.Test.YtlkcblhagcgboaaCore
namespace Go.Proofs.Ytlkcblhagcgboaa.Pure
open Go.RowKit Go.Proofs.Ytlkcblhagcgboaa.PFnSwappedOf Go.Proofs.YtlkcblhagcgboaaW.PrintWords
set_option linter.unusedSimpArgs false
set_option linter.unusedVariables false

/-! the reader -/
theorem pick_tot {b : List Int} (hb : ∀ x ∈ b, 0 ≤ x ∧ x < 256) {p n : Int} (hp : 0 ≤ p) (hp2 : p ≤ 1000000000) (hn : n ≤ 1000000000000) :
    Tot (fun k => spec_reader_pick.f k b p n) (fun r => r.2 = p + 1 ∧ 0 ≤ r.1 ∧ (r.1 < n ∨ r.1 = 0)) := by
  have e1 : wrap64 (p + 1) = p + 1 := w64 (by omega) (by omega)
  have e2 : wrap64 (p + 1 - 1) = p := by rw [w64 (by omega) (by omega)]; omega
  have main : ∀ t : Bool, (t = false → 1 ≤ n ∧ b.length ≠ 0) → Tot (fun k => spec_reader_pick.j0 k n t b (p + 1)) (fun r => r.2 = p + 1 ∧ 0 ≤ r.1 ∧ (r.1 < n ∨ r.1 = 0)) := by
    intro t ht
    refine Tot.step (fun _ => spec_reader_pick.j0.eq_2 ..) ?_
    simp only [e2]
    cases t with
    | true => exact Tot.pos rfl (Tot.now ⟨rfl, Int.le_refl _, .inr rfl⟩)
    | false =>
      obtain ⟨hn1, hne⟩ := ht rfl
      refine Tot.neg (by simp) ?_
      by_cases hlt : p < (b.length : Int)
      · refine Tot.pos hlt (Tot.pos hp (Tot.neg (by omega) ?_))
        have hr := hb _ (rd_mem hp hlt)
        rw [w64 (x := rd b p) (by omega) (by omega), tmod_nn hr.1]
        exact Tot.now ⟨rfl, Int.emod_nonneg _ (by omega), .inl (Int.emod_lt_of_pos _ (by omega))⟩
      · refine Tot.neg hlt (Tot.neg (by omega) ?_)
        have hlen : 0 < (b.length : Int) := by omega
        have i1 : 0 ≤ Int.tmod p b.length ∧ Int.tmod p b.length < b.length := by
          rw [tmod_nn hp]; exact ⟨Int.emod_nonneg _ (by omega), Int.emod_lt_of_pos _ hlen⟩
        have e3 : wrap64 (wrap64 (p * 7) + 3) = p * 7 + 3 := by
          rw [w64 (x := p * 7) (by omega) (by omega)]; exact w64 (by omega) (by omega)
        rw [e3]
        have i2 : 0 ≤ Int.tmod (p * 7 + 3) b.length ∧ Int.tmod (p * 7 + 3) b.length < b.length := by
          rw [tmod_nn (by omega)]; exact ⟨Int.emod_nonneg _ (by omega), Int.emod_lt_of_pos _ hlen⟩
        refine Tot.pos i1.1 (Tot.pos i1.2 (Tot.pos i2.1 (Tot.pos i2.2 (Tot.neg (by omega) ?_))))
        have hu := hb _ (rd_mem i1.1 i1.2)
        have hv := hb _ (rd_mem i2.1 i2.2)
        have hq : 0 ≤ Int.tdiv p b.length ∧ Int.tdiv p b.length ≤ p := by
          rw [tdiv_nn hp]
          exact ⟨Int.ediv_nonneg hp (by omega), Int.ediv_le_self _ hp⟩
        generalize rd b (Int.tmod p b.length) = u at hu ⊢
        generalize rd b (Int.tmod (p * 7 + 3) b.length) = v at hv ⊢
        generalize Int.tdiv p b.length = q at hq ⊢
        rw [w64 (x := u) (by omega) (by omega), w64 (x := v) (by omega) (by omega), w64 (x := q) (by omega) (by omega), w64 (x := u * 131) (by omega) (by omega), w64 (x := v * 1117) (by omega) (by omega), w64 (x := p * 29) (by omega) (by omega), w64 (x := q * 53) (by omega) (by omega),
          w64 (x := u * 131 + v * 1117) (by omega) (by omega), w64 (x := u * 131 + v * 1117 + p * 29) (by omega) (by omega), w64 (x := u * 131 + v * 1117 + p * 29 + q * 53) (by omega) (by omega)]
        have hx : 0 ≤ u * 131 + v * 1117 + p * 29 + q * 53 ∧ u * 131 + v * 1117 + p * 29 + q * 53 < 4611686018427387904 := by omega
        generalize u * 131 + v * 1117 + p * 29 + q * 53 = x at hx ⊢
        rw [tdiv_nn hx.1, w64 (x := x / 64) (by omega) (by omega)]
        have hz := xor_nn hx.1 hx.2 (b := x / 64) (by omega) (by omega)
        rw [tmod_nn hz]
        exact Tot.now ⟨rfl, Int.emod_nonneg _ (by omega), .inl (Int.emod_lt_of_pos _ (by omega))⟩
  unfold spec_reader_pick.f
  rw [e1]
  refine Tot.ite (fun _ => main true (fun h => by cases h)) (fun h => main _ (fun h2 => ⟨by omega, fun h3 => ?_⟩))
  rw [h3] at h2
  simp at h2
theorem one_tot {b : List Int} (hb : ∀ x ∈ b, 0 ≤ x ∧ x < 256) {p : Int} (hp : 0 ≤ p) (hp2 : p ≤ 1000000000) {l : List Int} (hl : 0 < l.length) (hl2 : l.length ≤ 1000) :
    Tot (fun k => spec_reader_one.f k b p l) (fun r => r.2 = p + 1 ∧ r.1 ∈ l) := by
  unfold spec_reader_one.f
  refine Tot.bind (pick_tot hb hp hp2 (by omega)) ?_
  rintro ⟨v, q⟩ ⟨h1, h2, h3⟩
  simp only at h1 h2 h3 ⊢
  have h4 : v < (l.length : Int) := by omega
  exact Tot.pos h2 (Tot.pos h4 (Tot.now ⟨h1, rd_mem h2 h4⟩))
theorem newReader_tot {l : List Int} (h : ∀ x ∈ l, (Lit.int .u8 x).wf = true) : ∃ b, spec_newReader.f l = some (b, 0) ∧ b.length ≤ 2000 ∧ ∀ x ∈ b, 0 ≤ x ∧ x < 256 := by
  unfold spec_newReader.f
  by_cases h1 : (l.length : Int) > 2000
  · rw [if_pos h1, if_pos (by omega)]
    exact ⟨_, rfl, by simp; omega, fun x hx => wf_u8 (h x (List.mem_of_mem_take hx))⟩
  · rw [if_neg h1]
    exact ⟨_, rfl, by omega, fun x hx => wf_u8 (h x hx)⟩
/-- What anAmount draws. -/
def Amt (n : Int) : Prop := (∃ a : Int, 0 ≤ a ∧ a < 200 ∧ n = 10 * a) ∨ (0 ≤ n ∧ n < 250) ∨ n = 12345 ∨ n = 1000000 ∨ n = 999999 ∨ n = -1 ∨ n = 1000001 ∨ n = 90909
theorem anAmount_tot {b : List Int} (hb : ∀ x ∈ b, 0 ≤ x ∧ x < 256) {p : Int} (hp : 0 ≤ p) (hp2 : p ≤ 1000000) :
    Tot (fun k => spec_anAmount.f k b p) (fun r => r.2 = p + 3 ∧ Amt r.1) := by
  unfold spec_anAmount.f
  refine Tot.bind (pick_tot hb hp (by omega) (by omega)) ?_
  rintro ⟨v, q⟩ ⟨h1, h2, h3⟩
  simp only at h1 h2 h3 ⊢
  refine Tot.bind (pick_tot hb (by omega) (by omega) (by omega)) ?_
  rintro ⟨v2, q2⟩ ⟨g1, g2, g3⟩
  simp only at g1 g2 g3 ⊢
  refine Tot.bind (one_tot hb (by omega) (by omega) (by simp) (by simp)) ?_
  rintro ⟨v3, q3⟩ ⟨f1, f2⟩
  rw [w64 (x := 10 * v) (by omega) (by omega)] at f2
  simp only [List.mem_cons, List.not_mem_nil, or_false] at f1 f2 ⊢
  refine Tot.now ⟨by simp only; omega, ?_⟩
  show Amt v3
  unfold Amt
  rcases f2 with rfl | rfl | rfl | rfl | rfl | rfl | rfl | rfl | rfl | rfl | rfl | rfl
  · exact .inl ⟨100, by omega, by omega, rfl⟩
  · exact .inl ⟨v, by omega, by omega, rfl⟩
  all_goals omega
def body (k : Nat) (n : Int) : Option Bool := (impl_SwappedOf.f k n).bind fun t175 => ((spec_SwappedOf.f k n).bind fun t178 => ((laws_equalInts.f k t175 t178).bind fun t181 => (if t181 = true then (laws_FnSwappedOf.j0 k n t175 ((t175.length : Int) == 0)) else (laws_FnSwappedOf.j0 k n t175 true))))
def good (n : Int) : Bool := body 40 n == some true
def tens (c w : Nat) : Bool := (List.range w).all fun i => good (10 * ((c + i : Nat) : Int))
def lows (c w : Nat) : Bool := (List.range w).all fun i => good ((c + i : Nat) : Int)
theorem ten0 : tens 0 25 = true := by decide +kernel
theorem ten1 : tens 25 25 = true := by decide +kernel
theorem ten2 : tens 50 25 = true := by decide +kernel
theorem ten3 : tens 75 25 = true := by decide +kernel
theorem ten4 : tens 100 25 = true := by decide +kernel
theorem ten5 : tens 125 25 = true := by decide +kernel
theorem ten6 : tens 150 25 = true := by decide +kernel
theorem ten7 : tens 175 25 = true := by decide +kernel
theorem low0 : lows 0 50 = true := by decide +kernel
theorem low1 : lows 50 50 = true := by decide +kernel
theorem low2 : lows 100 50 = true := by decide +kernel
theorem low3 : lows 150 50 = true := by decide +kernel
theorem low4 : lows 200 50 = true := by decide +kernel
theorem great0 : good 12345 = true := by decide +kernel
theorem great1 : good 1000000 = true := by decide +kernel
theorem great2 : good 999999 = true := by decide +kernel
theorem great3 : good (-1) = true := by decide +kernel
theorem great4 : good 1000001 = true := by decide +kernel
theorem great5 : good 90909 = true := by decide +kernel
theorem tens_at {c w : Nat} (h : tens c w = true) {a : Int} (h0 : (c : Int) ≤ a) (h1 : a < (c : Int) + w) : good (10 * a) = true := by
  unfold tens at h
  rw [List.all_eq_true] at h
  have h2 := h (a - c).toNat (List.mem_range.2 (by omega))
  have e : ((c + (a - c).toNat : Nat) : Int) = a := by omega
  rw [e] at h2; exact h2
theorem lows_at {c w : Nat} (h : lows c w = true) {a : Int} (h0 : (c : Int) ≤ a) (h1 : a < (c : Int) + w) : good a = true := by
  unfold lows at h
  rw [List.all_eq_true] at h
  have h2 := h (a - c).toNat (List.mem_range.2 (by omega))
  have e : ((c + (a - c).toNat : Nat) : Int) = a := by omega
  rw [e] at h2; exact h2
theorem good_of {n : Int} (h : Amt n) : good n = true := by
  rcases h with ⟨a, h0, h1, rfl⟩ | ⟨h0, h1⟩ | h
  · rcases (show (0 ≤ a ∧ a < 25) ∨ (25 ≤ a ∧ a < 50) ∨ (50 ≤ a ∧ a < 75) ∨ (75 ≤ a ∧ a < 100) ∨ (100 ≤ a ∧ a < 125) ∨ (125 ≤ a ∧ a < 150) ∨ (150 ≤ a ∧ a < 175) ∨ (175 ≤ a ∧ a < 200) by omega) with h | h | h | h | h | h | h | h
    · exact tens_at ten0 (by omega) (by omega)
    · exact tens_at ten1 (by omega) (by omega)
    · exact tens_at ten2 (by omega) (by omega)
    · exact tens_at ten3 (by omega) (by omega)
    · exact tens_at ten4 (by omega) (by omega)
    · exact tens_at ten5 (by omega) (by omega)
    · exact tens_at ten6 (by omega) (by omega)
    · exact tens_at ten7 (by omega) (by omega)
  · rcases (show (0 ≤ n ∧ n < 50) ∨ (50 ≤ n ∧ n < 100) ∨ (100 ≤ n ∧ n < 150) ∨ (150 ≤ n ∧ n < 200) ∨ (200 ≤ n ∧ n < 250) by omega) with h | h | h | h | h
    · exact lows_at low0 (by omega) (by omega)
    · exact lows_at low1 (by omega) (by omega)
    · exact lows_at low2 (by omega) (by omega)
    · exact lows_at low3 (by omega) (by omega)
    · exact lows_at low4 (by omega) (by omega)
  · rcases h with rfl | rfl | rfl | rfl | rfl | rfl
    · exact great0
    · exact great1
    · exact great2
    · exact great3
    · exact great4
    · exact great5
theorem body_mono (n : Int) : ∀ k, LeO (body k n) (body (k + 1) n) := by
  intro k
  have ih0 := (laws_FnSwappedOf.mono_l k).1
  unfold body
  repeat' first
      | (with_reducible exact ih0 _ _ _)
      | (with_reducible exact impl_SwappedOf.mono _ _)
      | (with_reducible exact spec_SwappedOf.mono _ _)
      | (with_reducible exact laws_equalInts.mono _ _ _)
      | (with_reducible refine LeO.ite ?_ ?_)
      | (with_reducible refine LeO.bind ?_ (fun _ => ?_))
theorem body_tot {n : Int} (h : Amt n) : Tot (fun k => body k n) (fun t => t = true) := by
  have hg := good_of h
  have hb : body 40 n = some true := by
    unfold good at hg
    rcases hx : body 40 n with _ | x
    · rw [hx] at hg; cases hg
    · rw [hx] at hg; cases x
      · cases hg
      · rfl
  obtain ⟨K, hK⟩ := Ev.of (body_mono n) hb
  exact ⟨true, rfl, K, hK⟩
theorem FnSwappedOf : laws_FnSwappedOf.Pure := by
  intro l hl hl2 hw
  refine Tot.ends (g := fun k => laws_FnSwappedOf.f k l) ?_
  unfold laws_FnSwappedOf.f spec_DrawSwappedOf.f
  refine Tot.ite (fun _ => Tot.now rfl) (fun _ => ?_)
  obtain ⟨b, hb, hb2, hb3⟩ := newReader_tot hw
  rw [hb]
  simp only [Option.bind_some]
  refine Tot.bind (P := Amt) (Tot.bind (anAmount_tot hb3 (Int.le_refl _) (by omega)) ?_) ?_
  · rintro ⟨n, p⟩ ⟨_, h⟩
    exact Tot.now h
  · intro n hn
    exact body_tot hn
end Go.Proofs.Ytlkcblhagcgboaa.Pure
