/- FnExactMistakeOf: for all arguments MistakeOf of the program and of the reference agree. No condition beyond the statement's own. -/
import Derived.Test.YtpbhpkgilkfckaaQFnExactMistakeOfx6
import Derived.Test.YtpbhpkgilkfckaaCore
namespace Go.Proofs.Ytpbhpkgilkfckaa.Pure
open Go.RowKit Go.Proofs.Ytpbhpkgilkfckaa.PFnExactMistakeOf Go.Proofs.YtpbhpkgilkfckaaW.PrintWords
set_option linter.unusedSimpArgs false
set_option linter.unusedVariables false

theorem copyInts_eq {l : List Int} (h : l.length < 17592186044416) : spec_copyInts.f l = some l := by
  simp [spec_copyInts.f, h]
theorem Tot.bindv {α β : Type} {g : Nat → Option α} {F : Nat → α → Option β} {v : α} {Q : β → Prop} (h : Tot g (fun t => t = v)) (h2 : Tot (fun k => F k v) Q) : Tot (fun k => (g k).bind (F k)) Q :=
  Tot.bind h (fun a ha => by rw [ha]; exact h2)
/-! digits -/
def pw : Nat → Int
  | 0 => 1
  | q + 1 => 10 * pw q
theorem pw_pos : ∀ q, 1 ≤ pw q := by
  intro q
  induction q with
  | zero => exact Int.le_refl _
  | succ q ih => rw [pw]; omega
theorem pw_mono : ∀ {p q : Nat}, p ≤ q → pw p ≤ pw q := by
  intro p q h
  induction q with
  | zero =>
    have : p = 0 := by omega
    rw [this]; exact Int.le_refl _
  | succ q ih =>
    rcases Nat.lt_or_ge p (q + 1) with h1 | h1
    · have := ih (by omega)
      have := pw_pos q
      rw [pw]; omega
    · have : p = q + 1 := by omega
      rw [this]; exact Int.le_refl _
theorem pw_seven {q : Nat} (h : q ≤ 8) : pw q ≤ 100000000 := by
  have := pw_mono h
  have e : pw 8 = 100000000 := by decide
  omega
def dgt : Nat → Int → Int
  | 0, n => n % 10
  | q + 1, n => dgt q (n / 10)
theorem dgt_range : ∀ (q : Nat) (n : Int), 0 ≤ dgt q n ∧ dgt q n ≤ 9 := by
  intro q
  induction q with
  | zero => intro n; rw [dgt]; omega
  | succ q ih => intro n; rw [dgt]; exact ih _
theorem dgt_eq : ∀ (q : Nat) (n : Int), dgt q n = n / pw q % 10 := by
  intro q
  induction q with
  | zero => intro n; rw [dgt, pw, Int.ediv_one]
  | succ q ih => intro n; rw [dgt, ih, pw, Int.ediv_ediv_of_nonneg (by omega)]
def digs : Nat → Int → List Int
  | 0, _ => []
  | m + 1, n => digs m (n / 10) ++ [n % 10]
theorem digs_len : ∀ (m : Nat) (n : Int), (digs m n).length = m := by
  intro m
  induction m with
  | zero => intro n; rfl
  | succ m ih => intro n; rw [digs, List.length_append, ih]; rfl
theorem digs_get : ∀ (m i : Nat) (n : Int), i < m → (digs m n)[i]? = some (dgt (m - 1 - i) n) := by
  intro m
  induction m with
  | zero => intro i n h; omega
  | succ m ih =>
    intro i n h
    rw [digs]
    rcases Nat.lt_or_ge i m with h1 | h1
    · rw [List.getElem?_append_left (by rw [digs_len]; exact h1), ih i (n / 10) h1]
      have e : m + 1 - 1 - i = (m - 1 - i) + 1 := by omega
      rw [e, dgt]
    · have e : i = m := by omega
      rw [List.getElem?_append_right (by rw [digs_len]; omega), digs_len, e]
      simp [dgt]
def vf : Int → List Int → Int
  | a, [] => a
  | a, x :: r => vf (10 * a + x) r
theorem vf_append : ∀ (l : List Int) (a x : Int), vf a (l ++ [x]) = 10 * vf a l + x := by
  intro l
  induction l with
  | nil => intro a x; rfl
  | cons y l ih => intro a x; rw [List.cons_append, vf, ih, vf]
theorem vf_digs : ∀ (m : Nat) (n : Int), 0 ≤ n → n < pw m → vf 0 (digs m n) = n := by
  intro m
  induction m with
  | zero => intro n h0 h1; rw [pw] at h1; rw [digs, vf]; omega
  | succ m ih =>
    intro n h0 h1
    rw [pw] at h1
    rw [digs, vf_append, ih (n / 10) (by omega) (by omega)]
    omega
theorem vf_add : ∀ (l : List Int) (a c : Int), vf (a + c) l = vf a l + c * pw l.length := by
  intro l
  induction l with
  | nil => intro a c; rw [vf, vf, List.length_nil, pw]; omega
  | cons x l ih =>
    intro a c
    rw [vf, vf, show 10 * (a + c) + x = (10 * a + x) + 10 * c by omega, ih, List.length_cons, pw, ← Int.mul_assoc, Int.mul_comm c 10]
theorem vf_set : ∀ (l : List Int) (i : Nat) (a v x : Int), l[i]? = some x → vf a (l.set i v) = vf a l + (v - x) * pw (l.length - 1 - i) := by
  intro l
  induction l with
  | nil => intro i a v x h; simp at h
  | cons y l ih =>
    intro i a v x h
    cases i with
    | zero =>
      simp only [List.getElem?_cons_zero, Option.some.injEq] at h
      rw [List.set_cons_zero, vf, vf, show 10 * a + v = (10 * a + y) + (v - x) by omega, vf_add]
      rfl
    | succ i =>
      simp only [List.getElem?_cons_succ] at h
      rw [List.set_cons_succ, vf, vf, ih i _ v x h, List.length_cons]
      congr 3
      omega
theorem vf_bound : ∀ (l : List Int) (a : Int) (q : Nat), (∀ x ∈ l, 0 ≤ x ∧ x ≤ 9) → 0 ≤ a → a < pw q → 0 ≤ vf a l ∧ vf a l < pw (q + l.length) := by
  intro l
  induction l with
  | nil => intro a q _ h0 h1; exact ⟨h0, h1⟩
  | cons x l ih =>
    intro a q h h0 h1
    have hx := h x (by simp)
    have := ih (10 * a + x) (q + 1) (fun y hy => h y (List.mem_cons_of_mem _ hy)) (by omega) (by rw [pw]; omega)
    rw [vf, List.length_cons, show q + (l.length + 1) = q + 1 + l.length by omega]
    exact this
theorem valueOf_l0 {xs : List Int} (hl : xs.length ≤ 8) (hx : ∀ x ∈ xs, 0 ≤ x ∧ x ≤ 9) : ∀ (r : List Int) (i : Nat) (acc : Int), xs.drop i = r → 0 ≤ acc → acc < pw i →
    Tot (fun k => spec_valueOf.l0 k xs acc i) (fun t => t = vf acc r) := by
  intro r
  induction r with
  | nil =>
    intro i acc h _ _
    have := drop_nil h
    exact Tot.step (fun _ => spec_valueOf.l0.eq_2 ..) (Tot.neg (by omega) (Tot.now (by rw [vf])))
  | cons x r ih =>
    intro i acc h h0 h1
    obtain ⟨g1, g2, g3⟩ := drop_cons h
    have hxx := hx x (List.mem_of_getElem? g3)
    have hp := pw_seven (q := i) (by omega)
    refine Tot.step (fun _ => spec_valueOf.l0.eq_2 ..) ?_
    rw [rd_at g3, w64s (by omega), w64 (x := 10 * acc) (by omega) (by omega), w64 (x := 10 * acc + x) (by omega) (by omega), vf]
    exact Tot.pos (by omega) (Tot.pos (by omega) (ih (i + 1) _ g2 (by omega) (by rw [pw]; omega)))
theorem valueOf_tot {xs : List Int} (hl : xs.length ≤ 8) (hx : ∀ x ∈ xs, 0 ≤ x ∧ x ≤ 9) : Tot (fun k => spec_valueOf.f k xs) (fun t => t = vf 0 xs) := by
  unfold spec_valueOf.f
  exact valueOf_l0 hl hx xs 0 0 rfl (Int.le_refl _) (by rw [pw]; omega)
theorem specDigits_tot : ∀ (M : Nat) (n : Int), 0 ≤ n → n < pw (M + 1) → (1 ≤ M → pw M ≤ n) → M ≤ 8 → Tot (fun k => spec_digits.f k n) (fun t => t = digs (M + 1) n) := by
  intro M
  induction M with
  | zero =>
    intro n h0 h1 _ _
    simp only [pw] at h1
    refine Tot.step (fun _ => spec_digits.f.eq_2 ..) (Tot.pos (by omega) (Tot.now ?_))
    rw [digs, digs, List.nil_append, show n % 10 = n by omega]
  | succ M ih =>
    intro n h0 h1 h2 h8
    have h2 := h2 (by omega)
    have hp := pw_pos M
    have hq := pw_seven (q := M) (by omega)
    simp only [pw] at h1 h2
    refine Tot.step (fun _ => spec_digits.f.eq_2 ..) (Tot.neg (by omega) ?_)
    rw [tdiv_nn h0, tmod_nn h0, w64 (x := n / 10) (by omega) (by omega)]
    refine Tot.bindv (ih (n / 10) (by omega) (by simp only [pw]; omega) (fun _ => by omega) (by omega)) ?_
    exact Tot.pos (by rw [digs_len]; omega) (Tot.now (by rw [digs]; rfl))
/-- The numbers with two neighbouring digits exchanged, of the q last pairs. -/
def swl (n : Int) (M : Nat) : Nat → List Int
  | 0 => []
  | q + 1 => (if dgt (q + 1) n = dgt q n then [] else if dgt q n = 0 ∧ q + 1 = M then [] else [n + (dgt q n - dgt (q + 1) n) * (pw (q + 1) - pw q)]) ++ swl n M q
theorem swl_len (n : Int) (M : Nat) : ∀ q, (swl n M q).length ≤ q := by
  intro q
  induction q with
  | zero => simp [swl]
  | succ q ih =>
    rw [swl, List.length_append]
    split
    · simp; omega
    · split
      · simp; omega
      · simp; omega
/-- M + 1 digits. -/
def Dg (n : Int) (M : Nat) : Prop := pw M ≤ n ∧ n < pw (M + 1) ∧ M ≤ 6
theorem item_bound {n : Int} {M q : Nat} (h : Dg n M) (hq : q + 1 ≤ M) : -1000000000 ≤ (dgt q n - dgt (q + 1) n) * (pw (q + 1) - pw q) ∧ (dgt q n - dgt (q + 1) n) * (pw (q + 1) - pw q) ≤ 1000000000 := by
  have h1 := dgt_range q n
  have h2 := dgt_range (q + 1) n
  have hp := pw_pos q
  have hM := h.2.2
  have hp2 := pw_seven (q := q + 1) (by omega)
  rw [pw] at hp2 ⊢
  have e : 10 * pw q - pw q = 9 * pw q := by omega
  rw [e]
  have a1 := Int.mul_le_mul_of_nonneg_right (show dgt q n - dgt (q + 1) n ≤ 9 by omega) (show 0 ≤ 9 * pw q by omega)
  have a2 := Int.mul_le_mul_of_nonneg_right (show -9 ≤ dgt q n - dgt (q + 1) n by omega) (show 0 ≤ 9 * pw q by omega)
  omega
/-- Where a place stands behind its round. -/
def place : Nat → Int
  | 0 => 0
  | q + 1 => pw q
theorem place_ten (q : Nat) : pw q / 10 = place q := by
  cases q with
  | zero => rfl
  | succ q => rw [place, pw]; omega
theorem implSwapped_l1 {n : Int} {M : Nat} (h : Dg n M) : ∀ (q : Nat) (out : List Int), q ≤ M → out.length + q ≤ 100 →
    Tot (fun k => impl_SwappedOf.l1 k n (place q) out) (fun t => t = out ++ swl n M q) := by
  intro q
  induction q with
  | zero =>
    intro out _ _
    exact Tot.step (fun _ => impl_SwappedOf.l1.eq_2 ..) (Tot.neg (by rw [place]; omega) (Tot.now (by simp [swl])))
  | succ q ih =>
    intro out hq ho
    have hp := pw_pos q
    have hM := h.2.2
    have hp2 := pw_seven (q := q + 2) (by omega)
    simp only [pw] at hp2
    have hn : 0 ≤ n := by have := pw_pos M; have := h.1; omega
    have hn2 : n < 10000000 := by
      have := pw_mono (show M + 1 ≤ 7 by omega)
      have e : pw 7 = 10000000 := by decide
      have := h.2.1
      omega
    have hlow := pw_mono hq
    have hge := h.1
    have hit := item_bound h hq
    rw [swl]
    refine Tot.step (fun _ => impl_SwappedOf.l1.eq_2 ..) ?_
    rw [place]
    have e10 : pw q * 10 = pw (q + 1) := by rw [pw]; omega
    have e100 : pw q * 100 = pw (q + 2) := by rw [pw, pw]; omega
    have dr := Int.ediv_nonneg hn (show 0 ≤ pw q by omega)
    have dl := Int.ediv_nonneg hn (show 0 ≤ pw (q + 1) by rw [pw]; omega)
    have dr2 := Int.ediv_le_self (pw q) hn
    have dl2 := Int.ediv_le_self (pw (q + 1)) hn
    have hp1 := pw_pos (q + 1)
    have hp3 := pw_pos (q + 2)
    have dz := Int.ediv_nonneg hn (show 0 ≤ pw (q + 2) by omega)
    have dz2 := Int.ediv_le_self (pw (q + 2)) hn
    have b1 : pw (q + 1) ≤ 100000000 := pw_seven (by omega)
    have b2 : pw (q + 2) ≤ 100000000 := pw_seven (by omega)
    have b0 : pw q ≤ 100000000 := pw_seven (by omega)
    rw [e10, e100, w64 (x := pw (q + 1)) (by omega) (by omega), w64 (x := pw (q + 2)) (by omega) (by omega), tdiv_nn hn, tdiv_nn hn, tdiv_nn hn, w64 (x := n / pw (q + 1)) (by omega) (by omega), w64 (x := n / pw q) (by omega) (by omega), w64 (x := n / pw (q + 2)) (by omega) (by omega), tmod_nn dl, tmod_nn dr, ← dgt_eq, ← dgt_eq, tdiv_nn (show 0 ≤ pw q by omega), place_ten, w64 (x := place q) (by rw [← place_ten]; omega) (by rw [← place_ten]; omega)]
    have r1 := dgt_range q n
    have r2 := dgt_range (q + 1) n
    rw [w64 (x := dgt q n - dgt (q + 1) n) (by omega) (by omega), w64 (x := pw (q + 1) - pw q) (by omega) (by omega), w64 (x := (dgt q n - dgt (q + 1) n) * (pw (q + 1) - pw q)) (by omega) (by omega), w64 (x := n + (dgt q n - dgt (q + 1) n) * (pw (q + 1) - pw q)) (by omega) (by omega)]
    have hge10 : ¬ n / pw q < 10 := by
      rw [Int.ediv_lt_iff_lt_mul (by omega)]
      rw [pw] at hlow
      omega
    have hz : n / pw (q + 2) = 0 ↔ q + 1 = M := by
      constructor
      · intro h0
        have h1 : ¬ 1 ≤ n / pw (q + 2) := by omega
        rw [Int.le_ediv_iff_mul_le (by omega)] at h1
        rcases Nat.lt_or_ge (q + 1) M with h2 | h2
        · have := pw_mono (show q + 2 ≤ M by omega)
          omega
        · omega
      · intro h0
        have h1 := h.2.1
        rw [← h0] at h1
        exact Int.ediv_eq_zero_of_lt hn h1
    refine Tot.pos (by omega) (Tot.neg (by omega) (Tot.neg (by omega) (Tot.ite (fun c1 => ?_) (fun c1 => Tot.neg hge10 (Tot.ite (fun c2 => Tot.neg (by omega) (Tot.ite (fun c3 => ?_) (fun c3 => ?_))) (fun c2 => ?_))))))
    · rw [if_pos c1]
      exact ih out (by omega) (by omega)
    · rw [if_neg c1, if_pos ⟨c2, hz.1 c3⟩]
      exact ih out (by omega) (by omega)
    · rw [if_neg c1, if_neg (fun c => c3 (hz.2 c.2))]
      refine Tot.pos (by omega) ((ih _ (by omega) (by simp; omega)).mono ?_)
      rintro t rfl
      simp
    · rw [if_neg c1, if_neg (fun c => c2 c.1)]
      refine Tot.pos (by omega) ((ih _ (by omega) (by simp; omega)).mono ?_)
      rintro t rfl
      simp
theorem implSwapped_l0 {n : Int} {M : Nat} (h : Dg n M) : ∀ (d q : Nat), q + d + 1 = M → Tot (fun k => impl_SwappedOf.l0 k n (pw q)) (fun t => t = swl n M M) := by
  have hM := h.2.2
  have hn : 0 ≤ n := by have := pw_pos M; have := h.1; omega
  have hn2 : n < 10000000 := by
    have := pw_mono (show M + 1 ≤ 7 by omega)
    have e : pw 7 = 10000000 := by decide
    have := h.2.1
    omega
  intro d
  induction d with
  | zero =>
    intro q hq
    have hp := pw_pos q
    have dr := Int.ediv_nonneg hn (show 0 ≤ pw q by omega)
    have dr2 := Int.ediv_le_self (pw q) hn
    refine Tot.step (fun _ => impl_SwappedOf.l0.eq_2 ..) (Tot.neg (by omega) ?_)
    rw [tdiv_nn hn, w64 (x := n / pw q) (by omega) (by omega)]
    refine Tot.neg ?_ ?_
    · have h1 : n < 10 * (10 * pw q) := by
        have := h.2.1
        rw [← hq] at this
        exact this
      have : n / pw q < 100 := by
        rw [Int.ediv_lt_iff_lt_mul (by omega)]
        omega
      omega
    · refine (implSwapped_l1 h (q + 1) [] (by omega) (by simp; omega)).mono ?_
      rintro t rfl
      rw [List.nil_append, show q + 1 = M by omega]
  | succ d ih =>
    intro q hq
    have hp := pw_pos q
    have hb := pw_seven (q := q + 1) (by omega)
    have dr := Int.ediv_nonneg hn (show 0 ≤ pw q by omega)
    have dr2 := Int.ediv_le_self (pw q) hn
    have hlow := pw_mono (show q + 2 ≤ M by omega)
    have hge := h.1
    refine Tot.step (fun _ => impl_SwappedOf.l0.eq_2 ..) (Tot.neg (by omega) ?_)
    have e10 : pw q * 10 = pw (q + 1) := by rw [pw]; omega
    rw [tdiv_nn hn, w64 (x := n / pw q) (by omega) (by omega), e10, w64 (x := pw (q + 1)) (by have := pw_pos (q + 1); omega) (by omega)]
    refine Tot.pos ?_ (ih (q + 1) (by omega))
    have : 100 ≤ n / pw q := by
      rw [Int.le_ediv_iff_mul_le (by omega)]
      simp only [pw] at hlow
      omega
    omega
theorem implSwapped_tot {n : Int} {M : Nat} (h : Dg n M) (hn2 : n ≤ 1000000) : Tot (fun k => impl_SwappedOf.f k n) (fun t => t = swl n M M) := by
  have hn : 1 ≤ n := by have := pw_pos M; have := h.1; omega
  unfold impl_SwappedOf.f
  refine Tot.neg (by omega) ?_
  rw [decide_eq_false (show ¬ n > 1000000 by omega)]
  refine Tot.step (fun _ => impl_SwappedOf.j0.eq_2 ..) (Tot.neg (by decide) ?_)
  rcases Nat.eq_zero_or_pos M with hM | hM
  · subst hM
    have h1 := h.2.1
    simp only [pw] at h1
    refine Tot.step (fun _ => impl_SwappedOf.l0.eq_2 ..) (Tot.neg (by decide) ?_)
    rw [tdiv_nn (by omega : 0 ≤ n), Int.ediv_one, w64 (x := n) (by omega) (by omega)]
    refine Tot.neg (by omega) (Tot.step (fun _ => impl_SwappedOf.l1.eq_2 ..) (Tot.pos (by decide) ?_))
    rw [w64 (x := 1 * 10) (by decide) (by decide), show (1 : Int) * 10 = 10 from rfl, tdiv_nn (by omega : 0 ≤ n), tdiv_nn (by omega : 0 ≤ n), Int.ediv_one, w64 (x := n) (by omega) (by omega), w64 (x := n / 10) (by omega) (by omega), tmod_nn (by omega : 0 ≤ n / 10), tmod_nn (by omega : 0 ≤ n)]
    have hz : n / 10 = 0 := by omega
    rw [hz]
    refine Tot.neg (by decide) (Tot.neg (by decide) (Tot.neg (by omega) (Tot.pos (by omega) ?_)))
    rw [show Int.tdiv 1 10 = 0 by decide, w64 (x := 0) (by decide) (by decide)]
    exact Tot.step (fun _ => impl_SwappedOf.l1.eq_2 ..) (Tot.neg (by decide) (Tot.now rfl))
  · exact implSwapped_l0 h (M - 1) 0 (by omega)
theorem specSwaps_l0 {n : Int} {M : Nat} (h : Dg n M) : ∀ (q i : Nat) (out : List Int), i + q = M → out.length + q ≤ 100 →
    Tot (fun k => spec_swaps.l0 k out (digs (M + 1) n) i) (fun t => t = out ++ swl n M q) := by
  have hM := h.2.2
  have hn : 0 ≤ n := by have := pw_pos M; have := h.1; omega
  have hL := digs_len (M + 1) n
  intro q
  induction q with
  | zero =>
    intro i out hi ho
    refine Tot.step (fun _ => spec_swaps.l0.eq_2 ..) ?_
    rw [w64s (by omega)]
    exact Tot.neg (by omega) (Tot.now (by simp [swl]))
  | succ q ih =>
    intro i out hi ho
    refine Tot.step (fun _ => spec_swaps.l0.eq_2 ..) ?_
    have gi := digs_get (M + 1) i n (by omega)
    have gj := digs_get (M + 1) (i + 1) n (by omega)
    have g0 := digs_get (M + 1) 0 n (by omega)
    rw [show M + 1 - 1 - i = q + 1 by omega] at gi
    rw [show M + 1 - 1 - (i + 1) = q by omega] at gj
    rw [show M + 1 - 1 - 0 = M by omega] at g0
    rw [w64s (by omega), copyInts_eq (by omega)]
    refine Tot.pos (by omega) (Tot.known (Tot.pos (by omega) (Tot.pos (by omega) (Tot.pos (by omega) (Tot.pos (by omega) (Tot.pos (by omega) (Tot.known (Tot.pos (by omega) ?_))))))))
    rw [rd_at gi, rd_at gj, Int.toNat_natCast, Int.toNat_natCast]
    have hmem : ∀ x ∈ ((digs (M + 1) n).set i (dgt q n)).set (i + 1) (dgt (q + 1) n), 0 ≤ x ∧ x ≤ 9 := by
      intro x hx
      rcases List.mem_or_eq_of_mem_set hx with hx | hx
      · rcases List.mem_or_eq_of_mem_set hx with hx | hx
        · obtain ⟨j, hj⟩ := List.getElem?_of_mem hx
          have hjl : j < M + 1 := by
            have := (List.getElem?_eq_some_iff.1 hj).1
            omega
          rw [digs_get (M + 1) j n hjl] at hj
          injection hj with hj
          rw [← hj]; exact dgt_range _ _
        · rw [hx]; exact dgt_range _ _
      · rw [hx]; exact dgt_range _ _
    have hval : vf 0 (((digs (M + 1) n).set i (dgt q n)).set (i + 1) (dgt (q + 1) n)) = n + (dgt q n - dgt (q + 1) n) * (pw (q + 1) - pw q) := by
      have gj' : ((digs (M + 1) n).set i (dgt q n))[i + 1]? = some (dgt q n) := by
        rw [List.getElem?_set_ne (by omega)]; exact gj
      rw [vf_set _ (i + 1) 0 _ _ gj', vf_set _ i 0 _ _ gi, vf_digs (M + 1) n hn h.2.1, List.length_set, hL, show M + 1 - 1 - i = q + 1 by omega, show M + 1 - 1 - (i + 1) = q by omega]
      grind
    have htop : 1 ≤ dgt M n := by
      rw [dgt_eq]
      have hp := pw_pos M
      have a1 : 1 ≤ n / pw M := by
        rw [Int.le_ediv_iff_mul_le (by omega)]
        have := h.1; omega
      have a2 : n / pw M < 10 := by
        rw [Int.ediv_lt_iff_lt_mul (by omega)]
        have := h.2.1
        rw [pw] at this; omega
      omega
    have hfirst : rd (((digs (M + 1) n).set i (dgt q n)).set (i + 1) (dgt (q + 1) n)) 0 = if q + 1 = M then dgt q n else dgt M n := by
      refine rd_at (i := 0) ?_
      rw [List.getElem?_set_ne (by omega)]
      by_cases c : q + 1 = M
      · have e0 : i = 0 := by omega
        rw [if_pos c, e0, List.getElem?_set, if_pos rfl, if_pos (by omega)]
      · rw [if_neg c, List.getElem?_set_ne (by omega), g0]
    have r1 := dgt_range q n
    rw [hfirst, swl]
    have next := ih (i + 1) out (by omega) (by omega)
    refine Tot.ite (fun c1 => Tot.ite (fun c2 => ?_) (fun c2 => ?_)) (fun c1 => ?_)
    · rw [if_pos c2]; exact next
    · rw [if_neg c2, if_neg (fun c => by rw [if_pos c.2] at c1; omega)]
      refine Tot.bindv (valueOf_tot (by simp only [List.length_set]; omega) hmem) (Tot.pos (by omega) ?_)
      rw [hval]
      refine (ih (i + 1) _ (by omega) (by simp; omega)).mono ?_
      rintro t rfl
      simp
    · by_cases c3 : q + 1 = M
      · rw [if_pos c3] at c1
        have hz : dgt q n = 0 := by omega
        by_cases c4 : dgt (q + 1) n = dgt q n
        · rw [if_pos c4]; exact next
        · rw [if_neg c4, if_pos ⟨hz, c3⟩]; exact next
      · rw [if_neg c3] at c1; omega
theorem specSwaps_tot {n : Int} {M : Nat} (h : Dg n M) : Tot (fun k => spec_swaps.f k n) (fun t => t = swl n M M) := by
  unfold spec_swaps.f
  have hn : 0 ≤ n := by have := pw_pos M; have := h.1; omega
  refine Tot.bindv (specDigits_tot M n hn h.2.1 (fun _ => h.1) (by have := h.2.2; omega)) ?_
  refine (specSwaps_l0 h M 0 [] (by omega) (by have := h.2.2; simp; omega)).mono ?_
  rintro t rfl
  rfl
theorem has_digits : ∀ (d M : Nat) (n : Int), M + d = 6 → pw M ≤ n → n < pw 7 → ∃ K, Dg n K := by
  intro d
  induction d with
  | zero =>
    intro M n hM h1 h2
    have e : M = 6 := by omega
    rw [e] at h1
    exact ⟨6, h1, h2, by omega⟩
  | succ d ih =>
    intro M n hM h1 h2
    rcases Int.lt_or_le n (pw (M + 1)) with h3 | h3
    · exact ⟨M, h1, h3, by omega⟩
    · exact ih (M + 1) n (by omega) h3 h2
def sumL : List Int → Int
  | [] => 0
  | x :: r => x + sumL r
theorem sumL_bound {l : List Int} (h : ∀ x ∈ l, 0 ≤ x ∧ x ≤ 1000000) : 0 ≤ sumL l ∧ sumL l ≤ 1000000 * l.length := by
  induction l with
  | nil => simp [sumL]
  | cons x r ih =>
    have h1 := ih (fun y hy => h y (List.mem_cons_of_mem _ hy))
    have h2 := h x (by simp)
    simp only [sumL, List.length_cons]
    omega
/-- A valid body. -/
def VB (ws : List Int) (need : Int) : Prop := (1 ≤ ws.length ∧ ws.length ≤ 12) ∧ (∀ w ∈ ws, 0 ≤ w ∧ w ≤ 100) ∧ 1 ≤ need ∧ need ≤ sumL ws
instance (ws : List Int) (need : Int) : Decidable (VB ws need) := inferInstanceAs (Decidable ((1 ≤ ws.length ∧ ws.length ≤ 12) ∧ (∀ w ∈ ws, 0 ≤ w ∧ w ≤ 100) ∧ 1 ≤ need ∧ need ≤ sumL ws))
theorem dfalse {p : Prop} {i : Decidable p} (h : ¬ p) : false = @decide p i := by
  symm; rw [decide_eq_false_iff_not]; exact h
theorem dtrue {p : Prop} {i : Decidable p} (h : p) : true = @decide p i := by
  symm; rw [decide_eq_true_iff]; exact h
theorem inRange_eq (a b c : Int) : spec_inRange.f a b c = some (decide (b ≤ a ∧ a ≤ c)) := by
  unfold spec_inRange.f
  by_cases h : b ≤ a
  · rw [if_pos h]; simp [h]
  · rw [if_neg h]; simp [h]
/-! an entry -/
structure En where
  f0 : Int
  f1 : Int
  f2 : Int
  f3 : Int
def okE (e : En) : Prop := (0 ≤ e.f0 ∧ e.f0 ≤ 999) ∧ (0 ≤ e.f1 ∧ e.f1 ≤ 7) ∧ (0 ≤ e.f2 ∧ e.f2 ≤ 7) ∧ e.f1 ≠ e.f2 ∧ 1 ≤ e.f3 ∧ e.f3 ≤ 1000000
instance (e : En) : Decidable (okE e) := inferInstanceAs (Decidable ((0 ≤ e.f0 ∧ e.f0 ≤ 999) ∧ (0 ≤ e.f1 ∧ e.f1 ≤ 7) ∧ (0 ≤ e.f2 ∧ e.f2 ≤ 7) ∧ e.f1 ≠ e.f2 ∧ 1 ≤ e.f3 ∧ e.f3 ≤ 1000000))
theorem implValidAccount_eq (a : Int) : impl_validAccount.f a = some (decide (0 ≤ a ∧ a ≤ 7)) := by
  unfold impl_validAccount.f
  by_cases h : 0 ≤ a
  · rw [if_pos h]
    congr 1
    rw [decide_eq_decide]; omega
  · rw [if_neg h]
    congr 1
    exact dfalse fun h2 => h h2.1
theorem implValidEntry_tot (e : En) : Tot (fun k => impl_validEntry.f k e.f0 e.f1 e.f2 e.f3) (fun t => t = decide (okE e)) := by
  unfold impl_validEntry.f
  have bad : ¬ okE e → Tot (fun k => impl_validEntry.j0 k true e.f0 e.f1 e.f2 e.f3) (fun t => t = decide (okE e)) := fun h =>
    Tot.step (fun _ => impl_validEntry.j0.eq_2 ..) (Tot.pos rfl (Tot.now (dfalse h)))
  refine Tot.ite (fun h => bad fun h2 => by have := h2.1; omega) (fun h => Tot.ite (fun h1 => bad fun h2 => by have := h2.1; omega) (fun h1 => Tot.ite (fun h3 => bad fun h2 => by have := h2.2.2.2.2; omega) (fun h3 => ?_)))
  refine Tot.step (fun _ => impl_validEntry.j0.eq_2 ..) ?_
  simp only [decide_eq_true_eq, implValidAccount_eq, Option.bind_some]
  refine Tot.ite (fun h4 => Tot.now (dfalse fun h2 => by have := h2.2.2.2.2; omega)) (fun h4 => Tot.ite (fun h5 => Tot.ite (fun h6 => Tot.now ?_) (fun h6 => Tot.now (dfalse fun h2 => h6 h2.2.2.1))) (fun h5 => Tot.now (dfalse fun h2 => h5 h2.2.1)))
  by_cases h7 : e.f1 = e.f2
  · have hf : decide (okE e) = false := (dfalse (p := okE e) (fun h2 => h2.2.2.2.1 h7)).symm
    rw [hf]; simp [h7]
  · rw [← dtrue (p := okE e) ⟨by omega, h5, h6, h7, by omega, by omega⟩]; simp [h7]
theorem specValidEntry_eq (e : En) : spec_validEntry.f e.f0 e.f1 e.f2 e.f3 = some (decide (okE e)) := by
  unfold spec_validEntry.f
  simp only [inRange_eq, Option.bind_some, decide_eq_true_eq]
  by_cases h1 : 0 ≤ e.f0 ∧ e.f0 ≤ 999
  · by_cases h2 : 0 ≤ e.f1 ∧ e.f1 ≤ 7
    · by_cases h3 : 0 ≤ e.f2 ∧ e.f2 ≤ 7
      · by_cases h4 : e.f1 = e.f2
        · rw [if_pos h1, if_pos h2, if_pos h3, if_pos h4]
          congr 1; exact dfalse fun h => h.2.2.2.1 h4
        · rw [if_pos h1, if_pos h2, if_pos h3, if_neg h4]
          congr 1; rw [decide_eq_decide]
          exact ⟨fun h => ⟨h1, h2, h3, h4, h⟩, fun h => h.2.2.2.2⟩
      · rw [if_pos h1, if_pos h2, if_neg h3]
        congr 1; exact dfalse fun h => h3 h.2.2.1
    · rw [if_pos h1, if_neg h2]
      congr 1; exact dfalse fun h => h2 h.2.1
  · rw [if_neg h1]
    congr 1; exact dfalse fun h => h1 h.1
theorem placeIn_l0 {xs : List Int} {v : Int} (hl : xs.length ≤ 1000000000000) : ∀ (r : List Int) (i : Nat), xs.drop i = r →
    Tot (fun k => spec_placeIn.l0 k xs v i) (fun t => t = posFrom r v i) := by
  intro r
  induction r with
  | nil =>
    intro i h
    have := drop_nil h
    exact Tot.step (fun _ => spec_placeIn.l0.eq_2 ..) (Tot.neg (by omega) (Tot.now rfl))
  | cons x r ih =>
    intro i h
    obtain ⟨h1, h2, h3⟩ := drop_cons h
    refine Tot.step (fun _ => spec_placeIn.l0.eq_2 ..) ?_
    rw [rd_at h3, w64s (by omega), posFrom]
    refine Tot.pos (by omega) (Tot.pos (by omega) (Tot.ite (fun h4 => ?_) (fun h4 => ?_)))
    · rw [if_pos h4]; exact Tot.now rfl
    · rw [if_neg h4]; exact ih (i + 1) h2
theorem placeIn_tot {xs : List Int} {v : Int} (hl : xs.length ≤ 1000000000000) : Tot (fun k => spec_placeIn.f k xs v) (fun t => t = posFrom xs v 0) := by
  unfold spec_placeIn.f
  exact placeIn_l0 hl xs 0 rfl
theorem index_l0 {xs : List Int} {v : Int} (hl : xs.length ≤ 1000000000000) : ∀ (r : List Int) (i : Nat), xs.drop i = r →
    Tot (fun k => slices_Index_int_int.l0 k xs v xs.length i) (fun t => t = posFrom r v i) := by
  intro r
  induction r with
  | nil =>
    intro i h
    have := drop_nil h
    exact Tot.step (fun _ => slices_Index_int_int.l0.eq_2 ..) (Tot.neg (by omega) (Tot.now rfl))
  | cons x r ih =>
    intro i h
    obtain ⟨h1, h2, h3⟩ := drop_cons h
    refine Tot.step (fun _ => slices_Index_int_int.l0.eq_2 ..) ?_
    rw [rd_at h3, w64s (by omega), posFrom]
    refine Tot.pos (by omega) (Tot.pos (by omega) (Tot.pos (by omega) (Tot.ite (fun h4 => ?_) (fun h4 => ?_))))
    · rw [if_pos h4.symm]; exact Tot.now rfl
    · rw [if_neg (fun e => h4 e.symm)]; exact ih (i + 1) h2
theorem index_tot {xs : List Int} {v : Int} (hl : xs.length ≤ 1000000000000) : Tot (fun k => slices_Index_int_int.f k xs v) (fun t => t = posFrom xs v 0) := by
  unfold slices_Index_int_int.f
  exact index_l0 hl xs 0 rfl
/-- By which mistake. -/
def mis (a b : En) : Int → Int := fun M => if okE a ∧ okE b then (if (a.f0 = b.f0 ∧ a.f1 = b.f1 ∧ a.f2 = b.f2) ∧ b.f3 ∈ swl a.f3 M.toNat M.toNat then 2 else if (a.f0 = b.f0 ∧ a.f3 = b.f3) ∧ a.f1 = b.f2 ∧ a.f2 = b.f1 then 3 else if (a.f1 = b.f1 ∧ a.f2 = b.f2 ∧ a.f3 = b.f3) ∧ ¬ a.f0 = b.f0 then 4 else 5) else -1
theorem specMis_tot {a b : En} {M : Nat} (hM : okE a → Dg a.f3 M) : Tot (fun k => spec_MistakeOf.f k a.f0 a.f1 a.f2 a.f3 b.f0 b.f1 b.f2 b.f3) (fun t => t = mis a b M) := by
  unfold spec_MistakeOf.f
  rw [specValidEntry_eq, specValidEntry_eq]
  have bad : ¬ (okE a ∧ okE b) → Tot (fun _ => some (-1 : Int)) (fun t => t = mis a b M) := fun h => Tot.now (by unfold mis; rw [if_neg h])
  refine Tot.known (Tot.ite (fun h1 => Tot.known (Tot.ite (fun h2 => ?_) (fun h2 => bad fun h => h2 (decide_eq_true h.2)))) (fun h1 => bad fun h => h1 (decide_eq_true h.1)))
  have h1 := of_decide_eq_true h1
  have h2 := of_decide_eq_true h2
  have hD := hM h1
  have hsl := swl_len a.f3 M M
  have hm6 := hD.2.2
  refine Tot.bindv (v := mis a b M) ?_ (Tot.now rfl)
  unfold mis
  rw [if_pos ⟨h1, h2⟩, Int.toNat_natCast]
  have rest : ∀ (p : Bool), Tot (fun k => spec_mistake.j0 k p a.f0 a.f1 a.f2 a.f3 b.f0 b.f1 b.f2 b.f3) (fun t => t = if p = true then 2 else if (a.f0 = b.f0 ∧ a.f3 = b.f3) ∧ a.f1 = b.f2 ∧ a.f2 = b.f1 then 3 else if (a.f1 = b.f1 ∧ a.f2 = b.f2 ∧ a.f3 = b.f3) ∧ ¬ a.f0 = b.f0 then 4 else 5) := by
    intro p
    refine Tot.step (fun _ => spec_mistake.j0.eq_2 ..) (Tot.ite (fun hp => Tot.now (by rw [if_pos hp])) (fun hp => ?_))
    rw [if_neg hp]
    have tail : ∀ (s : Bool), (s = true ↔ (a.f0 = b.f0 ∧ a.f3 = b.f3) ∧ a.f1 = b.f2 ∧ a.f2 = b.f1) → Tot (fun k => spec_mistake.j1 k s a.f0 a.f1 a.f2 a.f3 b.f0 b.f1 b.f2 b.f3) (fun t => t = if (a.f0 = b.f0 ∧ a.f3 = b.f3) ∧ a.f1 = b.f2 ∧ a.f2 = b.f1 then 3 else if (a.f1 = b.f1 ∧ a.f2 = b.f2 ∧ a.f3 = b.f3) ∧ ¬ a.f0 = b.f0 then 4 else 5) := by
      intro s hs
      refine Tot.step (fun _ => spec_mistake.j1.eq_2 ..) (Tot.ite (fun c => Tot.now (by rw [if_pos (hs.1 c)])) (fun c => ?_))
      rw [if_neg (fun x => c (hs.2 x))]
      refine Tot.ite (fun c1 => Tot.ite (fun c2 => Tot.now ?_) (fun c2 => Tot.now ?_)) (fun c1 => Tot.now ?_)
      · simp only [Bool.and_eq_true, beq_iff_eq] at c1
        rw [if_pos ⟨⟨c1.1, c1.2.1, c1.2.2⟩, fun e => by simp [e, c1] at c2⟩]
      · simp only [Bool.and_eq_true, beq_iff_eq] at c1
        rw [if_neg (fun x => by simp [x.2] at c2)]
      · simp only [Bool.and_eq_true, beq_iff_eq] at c1
        rw [if_neg (fun x => c1 ⟨x.1.1, x.1.2.1, x.1.2.2⟩)]
    refine Tot.ite (fun c1 => Tot.ite (fun c2 => Tot.ite (fun c3 => tail _ ?_) (fun c3 => tail _ ?_)) (fun c2 => tail _ ?_)) (fun c1 => tail _ ?_)
    · simp [c1, c2, c3]
    · simp [c3]
    · simp [c2]
    · simp [c1]
  unfold spec_mistake.f
  by_cases hs : a.f0 = b.f0 ∧ a.f1 = b.f1 ∧ a.f2 = b.f2
  · refine Tot.pos (by simp [hs.1, hs.2.1, hs.2.2]) ?_
    refine Tot.bindv (specSwaps_tot hD) (Tot.bindv (placeIn_tot (by omega)) ?_)
    refine (rest _).mono ?_
    rintro t rfl
    by_cases hc : b.f3 ∈ swl a.f3 M M
    · rw [if_pos (decide_eq_true ((posFrom_ge (Int.le_refl _)).2 hc)), if_pos ⟨hs, hc⟩]
    · rw [if_neg (fun x => hc ((posFrom_ge (Int.le_refl _)).1 (of_decide_eq_true x))), if_neg (fun x : _ ∧ _ => hc x.2)]
  · refine Tot.neg (fun c => hs ?_) ?_
    · simp only [Bool.and_eq_true, beq_iff_eq] at c
      exact ⟨c.1, c.2.1, c.2.2⟩
    · refine (rest false).mono ?_
      rintro t rfl
      rw [if_neg (by decide), if_neg (fun x : _ ∧ _ => hs x.1)]
theorem contains_tot {l : List Int} {v : Int} (hl : l.length ≤ 1000) : Tot (fun k => slices_Contains_int_int.f k l v) (fun t => t = decide (v ∈ l)) := by
  unfold slices_Contains_int_int.f
  refine Tot.bindv (index_tot (by omega)) (Tot.now ?_)
  rw [decide_eq_decide]
  exact posFrom_ge (Int.le_refl _)
theorem implMis_tot {a b : En} {M : Nat} (hM : okE a → Dg a.f3 M) : Tot (fun k => impl_MistakeOf.f k a.f0 a.f1 a.f2 a.f3 b.f0 b.f1 b.f2 b.f3) (fun t => t = mis a b M) := by
  unfold impl_MistakeOf.f
  have bad : ¬ (okE a ∧ okE b) → Tot (fun k => impl_MistakeOf.j0 k true a.f0 a.f1 a.f2 a.f3 b.f0 b.f1 b.f2 b.f3) (fun t => t = mis a b M) := fun h =>
    Tot.step (fun _ => impl_MistakeOf.j0.eq_2 ..) (Tot.pos rfl (Tot.now (by unfold mis; rw [if_neg h])))
  refine Tot.bindv (implValidEntry_tot a) (Tot.ite (fun h1 => Tot.bindv (implValidEntry_tot b) ?_) (fun h1 => bad fun h => h1 (decide_eq_true h.1)))
  have h1 := of_decide_eq_true h1
  by_cases h2 : okE b
  · rw [decide_eq_true h2]
    have hD := hM h1
    have hsl := swl_len a.f3 M M
    have hm6 := hD.2.2
    have ha3 := h1.2.2.2.2.2
    refine Tot.step (fun _ => impl_MistakeOf.j0.eq_2 ..) (Tot.neg (by decide) ?_)
    unfold mis
    rw [if_pos ⟨h1, h2⟩, Int.toNat_natCast]
    have main : ∀ (s : Bool), (s = true ↔ a.f1 = b.f1 ∧ a.f2 = b.f2) → Tot (fun k => impl_MistakeOf.j1 k s a.f0 a.f1 a.f2 a.f3 b.f0 b.f1 b.f2 b.f3) (fun t => t = if (a.f0 = b.f0 ∧ a.f1 = b.f1 ∧ a.f2 = b.f2) ∧ b.f3 ∈ swl a.f3 M M then 2 else if (a.f0 = b.f0 ∧ a.f3 = b.f3) ∧ a.f1 = b.f2 ∧ a.f2 = b.f1 then 3 else if (a.f1 = b.f1 ∧ a.f2 = b.f2 ∧ a.f3 = b.f3) ∧ ¬ a.f0 = b.f0 then 4 else 5) := by
      intro s hs
      have two : ∀ (p : Bool), (p = true ↔ (a.f0 = b.f0 ∧ a.f1 = b.f1 ∧ a.f2 = b.f2) ∧ b.f3 ∈ swl a.f3 M M) → Tot (fun k => impl_MistakeOf.j2 k s p a.f0 a.f1 a.f2 a.f3 b.f0 b.f1 b.f2 b.f3) (fun t => t = if (a.f0 = b.f0 ∧ a.f1 = b.f1 ∧ a.f2 = b.f2) ∧ b.f3 ∈ swl a.f3 M M then 2 else if (a.f0 = b.f0 ∧ a.f3 = b.f3) ∧ a.f1 = b.f2 ∧ a.f2 = b.f1 then 3 else if (a.f1 = b.f1 ∧ a.f2 = b.f2 ∧ a.f3 = b.f3) ∧ ¬ a.f0 = b.f0 then 4 else 5) := by
        intro p hp
        refine Tot.step (fun _ => impl_MistakeOf.j2.eq_2 ..) (Tot.ite (fun c => Tot.now (by rw [if_pos (hp.1 c)])) (fun c => ?_))
        rw [if_neg (fun x => c (hp.2 x))]
        have three : ∀ (u : Bool), (u = true ↔ (a.f0 = b.f0 ∧ a.f3 = b.f3) ∧ a.f1 = b.f2 ∧ a.f2 = b.f1) → Tot (fun k => impl_MistakeOf.j3 k s u a.f0 a.f1 a.f2 a.f3 b.f0 b.f1 b.f2 b.f3) (fun t => t = if (a.f0 = b.f0 ∧ a.f3 = b.f3) ∧ a.f1 = b.f2 ∧ a.f2 = b.f1 then 3 else if (a.f1 = b.f1 ∧ a.f2 = b.f2 ∧ a.f3 = b.f3) ∧ ¬ a.f0 = b.f0 then 4 else 5) := by
          intro u hu
          refine Tot.step (fun _ => impl_MistakeOf.j3.eq_2 ..) (Tot.ite (fun d => Tot.now (by rw [if_pos (hu.1 d)])) (fun d => ?_))
          rw [if_neg (fun x => d (hu.2 x))]
          refine Tot.ite (fun e => Tot.now (by rw [if_neg (fun x => x.2 e)])) (fun e => Tot.ite (fun e2 => Tot.ite (fun e3 => Tot.now ?_) (fun e3 => Tot.now ?_)) (fun e2 => Tot.now ?_))
          · rw [if_pos ⟨⟨(hs.1 e2).1, (hs.1 e2).2, e3⟩, e⟩]
          · rw [if_neg (fun x => e3 x.1.2.2)]
          · rw [if_neg (fun x => e2 (hs.2 ⟨x.1.1, x.1.2.1⟩))]
        refine Tot.ite (fun c1 => Tot.ite (fun c2 => Tot.ite (fun c3 => three _ ?_) (fun c3 => three _ ?_)) (fun c2 => three _ ?_)) (fun c1 => three _ ?_)
        · simp [c1, c2, c3]
        · simp [c3]
        · simp [c2]
        · simp [c1]
      refine Tot.step (fun _ => impl_MistakeOf.j1.eq_2 ..) (Tot.ite (fun c1 => Tot.ite (fun c2 => ?_) (fun c2 => two _ ?_)) (fun c1 => two _ ?_))
      · refine Tot.bindv (implSwapped_tot hD (by omega)) (Tot.bindv (contains_tot (by omega)) (two _ ?_))
        rw [decide_eq_true_iff]
        exact ⟨fun x => ⟨⟨c1, hs.1 c2⟩, x⟩, fun x => x.2⟩
      · exact ⟨fun x => (by cases x), fun x => absurd (hs.2 x.1.2) c2⟩
      · exact ⟨fun x => (by cases x), fun x => absurd x.1.1 c1⟩
    refine Tot.ite (fun c => main _ ?_) (fun c => main _ ?_)
    · simp [c]
    · simp [c]
  · rw [decide_eq_false h2]
    exact bad fun h => h2 h.2
theorem FnExactMistakeOf : ∀ (a0 a1 a2 a3 b0 b1 b2 b3 : Int), (Lit.int .i64 a0).wf = true → (Lit.int .i64 a1).wf = true → (Lit.int .i64 a2).wf = true → (Lit.int .i64 a3).wf = true → (Lit.int .i64 b0).wf = true → (Lit.int .i64 b1).wf = true → (Lit.int .i64 b2).wf = true → (Lit.int .i64 b3).wf = true → ∃ k, laws_FnExactMistakeOf.f k a0 a1 a2 a3 b0 b1 b2 b3 = some true := by
  intro a0 a1 a2 a3 b0 b1 b2 b3 _ _ _ _ _ _ _ _
  refine Tot.ends (g := fun k => laws_FnExactMistakeOf.f k a0 a1 a2 a3 b0 b1 b2 b3) ?_
  unfold laws_FnExactMistakeOf.f laws_toEntry.f
  obtain ⟨M, hM⟩ : ∃ M, okE (⟨a0, a1, a2, a3⟩ : En) → Dg a3 M := by
    by_cases h : okE (⟨a0, a1, a2, a3⟩ : En)
    · have h5 := h.2.2.2.2
      dsimp only at h5
      have e7 : pw 7 = 10000000 := by decide
      obtain ⟨K, hK⟩ := has_digits 6 0 a3 rfl (by rw [pw]; omega) (by omega)
      exact ⟨K, fun _ => hK⟩
    · exact ⟨0, fun x => absurd x h⟩
  refine Tot.known (Tot.known ?_)
  dsimp only
  refine Tot.bindv (specMis_tot (a := ⟨a0, a1, a2, a3⟩) (b := ⟨b0, b1, b2, b3⟩) hM) (Tot.known (Tot.known ?_))
  dsimp only
  exact Tot.bindv (implMis_tot (a := ⟨a0, a1, a2, a3⟩) (b := ⟨b0, b1, b2, b3⟩) hM) (Tot.pos rfl (Tot.now rfl))
end Go.Proofs.Ytpbhpkgilkfckaa.Pure
