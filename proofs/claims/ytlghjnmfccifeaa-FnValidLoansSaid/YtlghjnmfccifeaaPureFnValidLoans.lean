/- FnValidLoans: for every code, valid loans are valid without any one of them. No condition beyond the statement's own. -/
import Derived.Test.YtlghjnmfccifeaaQFnValidLoansx5
import Derived.Test.YtlghjnmfccifeaaCore
namespace Go.Proofs.Ytlghjnmfccifeaa.Pure
open Go.RowKit Go.Proofs.Ytlghjnmfccifeaa.PFnValidLoans Go.Proofs.YtlghjnmfccifeaaW.PrintWords
set_option linter.unusedSimpArgs false
set_option linter.unusedVariables false

/-! the reader -/
theorem pick_tot {b : List Int} (hb : ∀ x ∈ b, 0 ≤ x ∧ x < 256) {p n : Int} (hp : 0 ≤ p) (hp2 : p ≤ 1000000000) (hn : n ≤ 1000000000000) :
    Tot (fun k => spec_reader_pick.f k b p n) (fun r => r.2 = p + 1 ∧ 0 ≤ r.1 ∧ (r.1 < n ∨ r.1 = 0)) := by
  have e1 : wrap64 (p + 1) = p + 1 := w64 (by omega) (by omega)
  have e2 : wrap64 (p + 1 - 1) = p := by rw [w64 (by omega) (by omega)]; omega
  have main : ∀ t : Bool, (t = false → 1 ≤ n ∧ b.length ≠ 0) → Tot (fun k => spec_reader_pick.j0 k n t b (p + 1)) (fun r => r.2 = p + 1 ∧ 0 ≤ r.1 ∧ (r.1 < n ∨ r.1 = 0)) := by
    intro t ht
    refine Tot.step (fun _ => spec_reader_pick.j0.eq_2 ..) ?_
    simp only [e2]
    cases t with
    | true => exact Tot.pos rfl (Tot.now ⟨rfl, Int.le_refl _, .inr rfl⟩)
    | false =>
      obtain ⟨hn1, hne⟩ := ht rfl
      refine Tot.neg (by simp) ?_
      by_cases hlt : p < (b.length : Int)
      · refine Tot.pos hlt (Tot.pos hp (Tot.neg (by omega) ?_))
        have hr := hb _ (rd_mem hp hlt)
        rw [w64 (x := rd b p) (by omega) (by omega), tmod_nn hr.1]
        exact Tot.now ⟨rfl, Int.emod_nonneg _ (by omega), .inl (Int.emod_lt_of_pos _ (by omega))⟩
      · refine Tot.neg hlt (Tot.neg (by omega) ?_)
        have hlen : 0 < (b.length : Int) := by omega
        have i1 : 0 ≤ Int.tmod p b.length ∧ Int.tmod p b.length < b.length := by
          rw [tmod_nn hp]; exact ⟨Int.emod_nonneg _ (by omega), Int.emod_lt_of_pos _ hlen⟩
        have e3 : wrap64 (wrap64 (p * 7) + 3) = p * 7 + 3 := by
          rw [w64 (x := p * 7) (by omega) (by omega)]; exact w64 (by omega) (by omega)
        rw [e3]
        have i2 : 0 ≤ Int.tmod (p * 7 + 3) b.length ∧ Int.tmod (p * 7 + 3) b.length < b.length := by
          rw [tmod_nn (by omega)]; exact ⟨Int.emod_nonneg _ (by omega), Int.emod_lt_of_pos _ hlen⟩
        refine Tot.pos i1.1 (Tot.pos i1.2 (Tot.pos i2.1 (Tot.pos i2.2 (Tot.neg (by omega) ?_))))
        have hu := hb _ (rd_mem i1.1 i1.2)
        have hv := hb _ (rd_mem i2.1 i2.2)
        have hq : 0 ≤ Int.tdiv p b.length ∧ Int.tdiv p b.length ≤ p := by
          rw [tdiv_nn hp]
          exact ⟨Int.ediv_nonneg hp (by omega), Int.ediv_le_self _ hp⟩
        generalize rd b (Int.tmod p b.length) = u at hu ⊢
        generalize rd b (Int.tmod (p * 7 + 3) b.length) = v at hv ⊢
        generalize Int.tdiv p b.length = q at hq ⊢
        rw [w64 (x := u) (by omega) (by omega), w64 (x := v) (by omega) (by omega), w64 (x := q) (by omega) (by omega), w64 (x := u * 131) (by omega) (by omega), w64 (x := v * 1117) (by omega) (by omega), w64 (x := p * 29) (by omega) (by omega), w64 (x := q * 53) (by omega) (by omega),
          w64 (x := u * 131 + v * 1117) (by omega) (by omega), w64 (x := u * 131 + v * 1117 + p * 29) (by omega) (by omega), w64 (x := u * 131 + v * 1117 + p * 29 + q * 53) (by omega) (by omega)]
        have hx : 0 ≤ u * 131 + v * 1117 + p * 29 + q * 53 ∧ u * 131 + v * 1117 + p * 29 + q * 53 < 4611686018427387904 := by omega
        generalize u * 131 + v * 1117 + p * 29 + q * 53 = x at hx ⊢
        rw [tdiv_nn hx.1, w64 (x := x / 64) (by omega) (by omega)]
        have hz := xor_nn hx.1 hx.2 (b := x / 64) (by omega) (by omega)
        rw [tmod_nn hz]
        exact Tot.now ⟨rfl, Int.emod_nonneg _ (by omega), .inl (Int.emod_lt_of_pos _ (by omega))⟩
  unfold spec_reader_pick.f
  rw [e1]
  refine Tot.ite (fun _ => main true (fun h => by cases h)) (fun h => main _ (fun h2 => ⟨by omega, fun h3 => ?_⟩))
  rw [h3] at h2
  simp at h2
theorem one_tot {b : List Int} (hb : ∀ x ∈ b, 0 ≤ x ∧ x < 256) {p : Int} (hp : 0 ≤ p) (hp2 : p ≤ 1000000000) {l : List Int} (hl : 0 < l.length) (hl2 : l.length ≤ 1000) :
    Tot (fun k => spec_reader_one.f k b p l) (fun r => r.2 = p + 1 ∧ r.1 ∈ l) := by
  unfold spec_reader_one.f
  refine Tot.bind (pick_tot hb hp hp2 (by omega)) ?_
  rintro ⟨v, q⟩ ⟨h1, h2, h3⟩
  simp only at h1 h2 h3 ⊢
  have h4 : v < (l.length : Int) := by omega
  exact Tot.pos h2 (Tot.pos h4 (Tot.now ⟨h1, rd_mem h2 h4⟩))
theorem newReader_tot {l : List Int} (h : ∀ x ∈ l, (Lit.int .u8 x).wf = true) : ∃ b, spec_newReader.f l = some (b, 0) ∧ b.length ≤ 2000 ∧ ∀ x ∈ b, 0 ≤ x ∧ x < 256 := by
  unfold spec_newReader.f
  by_cases h1 : (l.length : Int) > 2000
  · rw [if_pos h1, if_pos (by omega)]
    exact ⟨_, rfl, by simp; omega, fun x hx => wf_u8 (h x (List.mem_of_mem_take hx))⟩
  · rw [if_neg h1]
    exact ⟨_, rfl, by omega, fun x hx => wf_u8 (h x hx)⟩
def sumL : List Int → Int
  | [] => 0
  | x :: r => x + sumL r
theorem sumL_bound {l : List Int} (h : ∀ x ∈ l, 0 ≤ x ∧ x ≤ 1000000) : 0 ≤ sumL l ∧ sumL l ≤ 1000000 * l.length := by
  induction l with
  | nil => simp [sumL]
  | cons x r ih =>
    have h1 := ih (fun y hy => h y (List.mem_cons_of_mem _ hy))
    have h2 := h x (by simp)
    simp only [sumL, List.length_cons]
    omega
/-- A valid body. -/
def VB (ws : List Int) (need : Int) : Prop := (1 ≤ ws.length ∧ ws.length ≤ 12) ∧ (∀ w ∈ ws, 0 ≤ w ∧ w ≤ 100) ∧ 1 ≤ need ∧ need ≤ sumL ws
instance (ws : List Int) (need : Int) : Decidable (VB ws need) := inferInstanceAs (Decidable ((1 ≤ ws.length ∧ ws.length ≤ 12) ∧ (∀ w ∈ ws, 0 ≤ w ∧ w ≤ 100) ∧ 1 ≤ need ∧ need ≤ sumL ws))
theorem dfalse {p : Prop} {i : Decidable p} (h : ¬ p) : false = @decide p i := by
  symm; rw [decide_eq_false_iff_not]; exact h
theorem dtrue {p : Prop} {i : Decidable p} (h : p) : true = @decide p i := by
  symm; rw [decide_eq_true_iff]; exact h
/-! loans -/
abbrev Ln := S57
def LO (n : Int) (e : Ln) : Prop := (0 ≤ e.f0 ∧ e.f0 < n) ∧ (1 ≤ e.f1 ∧ e.f1 ≤ 100000) ∧ 1 ≤ e.f2.length ∧ DB e.f2 n ∧ e.f0 ∉ e.f2
instance (n : Int) (e : Ln) : Decidable (LO n e) := inferInstanceAs (Decidable ((0 ≤ e.f0 ∧ e.f0 < n) ∧ (1 ≤ e.f1 ∧ e.f1 ≤ 100000) ∧ 1 ≤ e.f2.length ∧ DB e.f2 n ∧ e.f0 ∉ e.f2))
def LV (l : List Ln) (n : Int) : Prop := ((l.length : Int) ≤ 16 ∧ 1 ≤ n ∧ n ≤ 12) ∧ ∀ e ∈ l, LO n e
instance (l : List Ln) (n : Int) : Decidable (LV l n) := inferInstanceAs (Decidable (((l.length : Int) ≤ 16 ∧ 1 ≤ n ∧ n ≤ 12) ∧ ∀ e ∈ l, LO n e))
theorem rdLn_at {l : List Ln} {i : Nat} {r : Ln} (h : l[i]? = some r) : rd_T57 l (i : Int) = r := by
  simp [rd_T57, List.getD_eq_getElem?_getD, h]
theorem Tot.bindv {α β : Type} {g : Nat → Option α} {F : Nat → α → Option β} {v : α} {Q : β → Prop} (h : Tot g (fun t => t = v)) (h2 : Tot (fun k => F k v) Q) : Tot (fun k => (g k).bind (F k)) Q :=
  Tot.bind h (fun a ha => by rw [ha]; exact h2)
def Sm (l : List Ln) : Prop := ∀ e ∈ l, e.f2.length ≤ 20
theorem Sm.app {l : List Ln} {e : Ln} (h : Sm l) (he : e.f2.length ≤ 20) : Sm (l ++ [e]) := by
  intro x hx
  rcases List.mem_append.1 hx with hx | hx
  · exact h x hx
  · rw [List.mem_singleton.1 hx]; exact he
theorem someLoans_l1 {b : List Int} (hb : ∀ x ∈ b, 0 ≤ x ∧ x < 256) {m : Nat} (hm : 2 ≤ m) (hm2 : m ≤ 8) {d : Nat} {out : List Ln} {bo am : Int} (ho : out.length + d ≤ 100) (hso : Sm out) {Q : List Ln × Int → Prop}
    (H : ∀ (e : Ln) (p : Int), 0 ≤ p → p + 20 * d ≤ 100000 → e.f2.length ≤ 20 → Tot (fun k => spec_someLoans.l0 k m (out ++ [e]) d b p) Q) : ∀ (c i : Nat) (p : Int) (g : List Int), i + c = m → g.length ≤ i → 0 ≤ p → p + c + 20 * d ≤ 100000 →
    Tot (fun k => spec_someLoans.l1 k m out ((d + 1 : Nat) : Int) i b p bo am g) Q := by
  intro c
  induction c with
  | zero =>
    intro i p g hi hg hp hp2
    have e : wrap64 (((d + 1 : Nat) : Int) - 1) = (d : Int) := by rw [w64 (by omega) (by omega)]; omega
    refine Tot.step (fun _ => spec_someLoans.l1.eq_2 ..) (Tot.neg (by omega) ?_)
    rw [e]
    refine Tot.ite (fun _ => Tot.neg (by omega) (Tot.pos (by omega) (H _ p hp (by omega) (by simp)))) (fun _ => Tot.pos (by omega) (H _ p hp (by omega) (by dsimp only; omega)))
  | succ c ih =>
    intro i p g hi hg hp hp2
    refine Tot.step (fun _ => spec_someLoans.l1.eq_2 ..) (Tot.pos (by omega) ?_)
    rw [w64s (by omega)]
    refine Tot.ite (fun _ => ih (i + 1) p g (by omega) (by omega) hp (by omega)) (fun _ => ?_)
    refine Tot.bind (pick_tot hb hp (by omega) (by omega)) ?_
    rintro ⟨v, q⟩ ⟨h1, h2, h3⟩
    dsimp only at h1 h2 h3 ⊢
    refine Tot.ite (fun _ => Tot.pos (by omega) (ih (i + 1) q _ (by omega) (by simp; omega) (by omega) (by omega))) (fun _ => ih (i + 1) q g (by omega) (by omega) (by omega) (by omega))
theorem someLoans_l0 {b : List Int} (hb : ∀ x ∈ b, 0 ≤ x ∧ x < 256) {m : Nat} (hm : 2 ≤ m) (hm2 : m ≤ 8) : ∀ (d : Nat) (out : List Ln) (p : Int), out.length + d ≤ 100 → Sm out → 0 ≤ p → p + 20 * d ≤ 100000 →
    Tot (fun k => spec_someLoans.l0 k m out d b p) (fun r => (r.1.length ≤ 100 ∧ Sm r.1) ∧ 0 ≤ r.2 ∧ r.2 ≤ 100000) := by
  intro d
  induction d with
  | zero =>
    intro out p ho hs hp hp2
    exact Tot.step (fun _ => spec_someLoans.l0.eq_2 ..) (Tot.neg (by omega) (Tot.now ⟨⟨by dsimp only; omega, hs⟩, hp, by dsimp only; omega⟩))
  | succ d ih =>
    intro out p ho hs hp hp2
    refine Tot.step (fun _ => spec_someLoans.l0.eq_2 ..) (Tot.pos (by omega) ?_)
    refine Tot.bind (pick_tot hb hp (by omega) (by omega)) ?_
    rintro ⟨v, q⟩ ⟨h1, h2, h3⟩
    dsimp only at h1 h2 h3 ⊢
    refine Tot.bind (pick_tot hb (by omega) (by omega) (by omega)) ?_
    rintro ⟨v2, q2⟩ ⟨g1, g2, g3⟩
    dsimp only at g1 g2 g3 ⊢
    refine Tot.bind (one_tot hb (by omega) (by omega) (by simp) (by simp)) ?_
    rintro ⟨v3, q3⟩ ⟨f1, _⟩
    dsimp only at f1 ⊢
    exact someLoans_l1 hb hm hm2 (by omega) hs (fun e p h5 h6 h7 => ih (out ++ [e]) p (by simp; omega) (hs.app h7) h5 h6) m 0 q3 [] (by omega) (by simp) (by omega) (by omega)
theorem someLoans_tot {b : List Int} (hb : ∀ x ∈ b, 0 ≤ x ∧ x < 256) {m : Nat} (hm2 : m ≤ 8) {p : Int} (hp : 0 ≤ p) (hp2 : p ≤ 10000) :
    Tot (fun k => spec_someLoans.f k b p m) (fun r => (r.1.length ≤ 100 ∧ Sm r.1) ∧ 0 ≤ r.2 ∧ r.2 ≤ 100000) := by
  unfold spec_someLoans.f
  refine Tot.known (Tot.ite (fun h => Tot.now ⟨⟨by simp, fun x hx => by simp at hx⟩, hp, by dsimp only; omega⟩) (fun h => ?_))
  refine Tot.bind (one_tot hb hp (by omega) (by simp) (by simp)) ?_
  rintro ⟨n, q⟩ ⟨h1, h2⟩
  simp only [List.mem_cons, List.not_mem_nil, or_false] at h1 h2 ⊢
  obtain ⟨d, rfl⟩ := Int.eq_ofNat_of_zero_le (show 0 ≤ n by omega)
  exact someLoans_l0 hb (by omega) hm2 d [] q (by simp; omega) (fun x hx => by simp at hx) (by omega) (by omega)
theorem anyLoans_tot {b : List Int} (hb : ∀ x ∈ b, 0 ≤ x ∧ x < 256) {p : Int} (hp : 0 ≤ p) (hp2 : p ≤ 1000) :
    Tot (fun k => spec_anyLoans.f k b p) (fun r => r.1.length ≤ 100 ∧ ∀ e ∈ r.1, e.f2.length ≤ 1048576) := by
  unfold spec_anyLoans.f
  refine Tot.bind (one_tot hb hp (by omega) (by simp) (by simp)) ?_
  rintro ⟨n, q⟩ ⟨h1, h2⟩
  simp only [List.mem_cons, List.not_mem_nil, or_false] at h1 h2 ⊢
  obtain ⟨m, rfl⟩ := Int.eq_ofNat_of_zero_le (show 0 ≤ n by omega)
  refine Tot.bind (someLoans_tot hb (by omega) (by omega) (by omega)) ?_
  rintro ⟨l, q2⟩ ⟨⟨g1, g2⟩, g3, g4⟩
  dsimp only at g1 g2 g3 g4 ⊢
  have hs : ∀ e ∈ l, e.f2.length ≤ 1048576 := fun e he => by have := g2 e he; omega
  refine Tot.ite (fun h => ?_) (fun h => Tot.now ⟨by dsimp only; omega, hs⟩)
  have h0 : l[0]? = some l[0] := List.getElem?_eq_getElem (by omega)
  have hl0 := g2 l[0] (List.getElem_mem (by omega))
  have e0 : rd_T57 l 0 = l[0] := rdLn_at (i := 0) h0
  rw [e0]
  refine Tot.bind (pick_tot hb g3 (by omega) (by omega)) ?_
  rintro ⟨v, q3⟩ ⟨f1, f2, f3⟩
  dsimp only at f1 f2 f3 ⊢
  have upd : ∀ e : Ln, e.f2.length ≤ 1048576 → ∀ x ∈ l.set (0 : Int).toNat e, x.f2.length ≤ 1048576 := by
    intro e he x hx
    rcases List.mem_or_eq_of_mem_set hx with hx | hx
    · exact hs x hx
    · rw [hx]; exact he
  refine Tot.ite (fun _ => ?_) (fun _ => Tot.ite (fun _ => ?_) (fun _ => Tot.ite (fun _ => ?_) (fun _ => Tot.now ⟨by dsimp only; omega, hs⟩)))
  · refine Tot.bind (one_tot hb (by omega) (by omega) (by simp) (by simp)) ?_
    rintro ⟨v2, q4⟩ _
    exact Tot.pos (by omega) (Tot.now ⟨by simp only [List.length_set]; omega, upd _ (by dsimp only; omega)⟩)
  · refine Tot.pos (by omega) ?_
    have ec : spec_copyInts.f l[0].f2 = some l[0].f2 := by
      unfold spec_copyInts.f
      simp only [Option.bind_some, List.length_nil, Nat.zero_add, List.nil_append]
      rw [if_pos (by omega)]
    rw [ec]
    refine Tot.known (Tot.bind (one_tot hb (by omega) (by omega) (by simp) (by simp)) ?_)
    rintro ⟨v2, q4⟩ _
    exact Tot.pos (by omega) (Tot.now ⟨by simp only [List.length_set]; omega, upd _ (by simp only [List.length_append, List.length_cons, List.length_nil]; omega)⟩)
  · refine Tot.bind (one_tot hb (by omega) (by omega) (by simp) (by simp)) ?_
    rintro ⟨v2, q4⟩ _
    exact Tot.now ⟨by dsimp only; omega, hs⟩
theorem inRange_eq (a b c : Int) : spec_inRange.f a b c = some (decide (b ≤ a ∧ a ≤ c)) := by
  unfold spec_inRange.f
  by_cases h : b ≤ a
  · rw [if_pos h]; simp [h]
  · rw [if_neg h]; simp [h]
theorem placeIn_l0 {xs : List Int} {v : Int} (hl : xs.length ≤ 1000000000000) : ∀ (r : List Int) (i : Nat), xs.drop i = r →
    Tot (fun k => spec_placeIn.l0 k xs v i) (fun t => t = posFrom r v i) := by
  intro r
  induction r with
  | nil =>
    intro i h
    have := drop_nil h
    exact Tot.step (fun _ => spec_placeIn.l0.eq_2 ..) (Tot.neg (by omega) (Tot.now rfl))
  | cons x r ih =>
    intro i h
    obtain ⟨h1, h2, h3⟩ := drop_cons h
    refine Tot.step (fun _ => spec_placeIn.l0.eq_2 ..) ?_
    rw [rd_at h3, w64s (by omega), posFrom]
    refine Tot.pos (by omega) (Tot.pos (by omega) (Tot.ite (fun h4 => ?_) (fun h4 => ?_)))
    · rw [if_pos h4]; exact Tot.now rfl
    · rw [if_neg h4]; exact ih (i + 1) h2
theorem placeIn_tot {xs : List Int} {v : Int} (hl : xs.length ≤ 1000000000000) : Tot (fun k => spec_placeIn.f k xs v) (fun t => t = posFrom xs v 0) := by
  unfold spec_placeIn.f
  exact placeIn_l0 hl xs 0 rfl
theorem validMembers_l0 {xs : List Int} {n : Int} (hl : xs.length ≤ 1000000000000) (hn : 0 ≤ n) (hn2 : n ≤ 1000000000000) : ∀ (r : List Int) (i : Nat), xs.drop i = r →
    Tot (fun k => spec_validMembers.l0 k xs n i) (fun t => t = decide ((∀ x ∈ r, (0 ≤ x ∧ x < n) ∧ x ∉ xs.take i) ∧ r.Nodup)) := by
  intro r
  induction r with
  | nil =>
    intro i h
    have := drop_nil h
    exact Tot.step (fun _ => spec_validMembers.l0.eq_2 ..) (Tot.neg (by omega) (Tot.now (by simp)))
  | cons x r ih =>
    intro i h
    obtain ⟨h1, h2, h3⟩ := drop_cons h
    refine Tot.step (fun _ => spec_validMembers.l0.eq_2 ..) ?_
    rw [rd_at h3, w64s (by omega), w64 (x := n - 1) (by omega) (by omega), inRange_eq]
    simp only [Option.bind_some, decide_eq_true_eq]
    refine Tot.pos (by omega) (Tot.pos (by omega) (Tot.ite (fun h4 => Tot.pos (by omega) ?_) (fun h4 => Tot.now ?_)))
    · rw [Int.toNat_natCast]
      refine Tot.bind (placeIn_tot (by simp; omega)) ?_
      rintro t rfl
      refine Tot.ite (fun h5 => Tot.now ?_) (fun h5 => ?_)
      · have h6 := (posFrom_ge (l := xs.take i) (v := x) (Int.le_refl 0)).1 h5
        symm
        rw [decide_eq_false_iff_not]
        intro h7
        exact (h7.1 x (by simp)).2 h6
      · have h6 : x ∉ xs.take i := fun h7 => h5 ((posFrom_ge (l := xs.take i) (v := x) (Int.le_refl 0)).2 h7)
        refine (ih (i + 1) h2).mono ?_
        rintro t rfl
        have h8 : xs.take (i + 1) = xs.take i ++ [x] := by rw [List.take_add_one, h3]; rfl
        rw [h8, decide_eq_decide]
        constructor
        · rintro ⟨h9, h10⟩
          refine ⟨fun y hy => ?_, List.nodup_cons.2 ⟨fun hx => ?_, h10⟩⟩
          · rcases List.mem_cons.1 hy with rfl | hy
            · exact ⟨⟨h4.1, by omega⟩, h6⟩
            · exact ⟨(h9 y hy).1, fun h11 => (h9 y hy).2 (List.mem_append_left _ h11)⟩
          · exact (h9 x hx).2 (by simp)
        · rintro ⟨h9, h10⟩
          obtain ⟨h11, h12⟩ := List.nodup_cons.1 h10
          refine ⟨fun y hy => ⟨(h9 y (List.mem_cons_of_mem _ hy)).1, fun h13 => ?_⟩, h12⟩
          rcases List.mem_append.1 h13 with h13 | h13
          · exact (h9 y (List.mem_cons_of_mem _ hy)).2 h13
          · rw [List.mem_singleton] at h13
            exact h11 (h13 ▸ hy)
    · symm
      rw [decide_eq_false_iff_not]
      intro h7
      have := (h7.1 x (by simp)).1
      omega
theorem validMembers_tot {xs : List Int} {n : Int} (hl : xs.length ≤ 1000000000000) (hn : 0 ≤ n) (hn2 : n ≤ 1000000000000) : Tot (fun k => spec_validMembers.f k xs n) (fun t => t = decide (DB xs n)) := by
  unfold spec_validMembers.f
  refine (validMembers_l0 hl hn hn2 xs 0 rfl).mono ?_
  rintro t rfl
  rw [decide_eq_decide]
  simp [DB]
theorem validMembers_any {xs : List Int} {n : Int} (hl : xs.length ≤ 1000000000000) : ∀ (r : List Int) (i : Nat), xs.drop i = r → Tot (fun k => spec_validMembers.l0 k xs n i) (fun _ => True) := by
  intro r
  induction r with
  | nil =>
    intro i h
    have := drop_nil h
    exact Tot.step (fun _ => spec_validMembers.l0.eq_2 ..) (Tot.neg (by omega) (Tot.now trivial))
  | cons x r ih =>
    intro i h
    obtain ⟨h1, h2, h3⟩ := drop_cons h
    refine Tot.step (fun _ => spec_validMembers.l0.eq_2 ..) ?_
    rw [rd_at h3, inRange_eq, w64s (by omega)]
    refine Tot.pos (by omega) (Tot.pos (by omega) (Tot.known (Tot.ite (fun _ => Tot.pos (by omega) (Tot.bindv (placeIn_tot (by rw [List.length_take]; omega)) (Tot.ite (fun _ => Tot.now trivial) (fun _ => ih (i + 1) h2)))) (fun _ => Tot.now trivial))))
theorem specLoans_l0 {l : List Ln} {n : Int} (hl : l.length ≤ 1048576) (hw : ∀ e ∈ l, e.f2.length ≤ 1048576) (hn : 1 ≤ n ∧ n ≤ 12) : ∀ (r : List Ln) (i : Nat), l.drop i = r →
    Tot (fun k => spec_validLoans.l0 k l n i) (fun t => t = decide (((l.length : Int) ≤ 16 ∧ 1 ≤ n ∧ n ≤ 12) ∧ ∀ e ∈ r, LO n e)) := by
  intro r
  induction r with
  | nil =>
    intro i h
    have := drop_nil h
    refine Tot.step (fun _ => spec_validLoans.l0.eq_2 ..) (Tot.neg (by omega) (Tot.ite (fun h1 => ?_) (fun h1 => Tot.now (dfalse fun h2 => h1 h2.1.1))))
    rw [inRange_eq]
    refine Tot.known (Tot.now ?_)
    rw [decide_eq_decide]
    exact ⟨fun h => ⟨⟨h1, h⟩, fun x hx => by cases hx⟩, fun h => h.1.2⟩
  | cons e r ih =>
    intro i h
    obtain ⟨h1, h2, h3⟩ := drop_cons h
    have hx := hw e (List.mem_of_getElem? h3)
    refine Tot.step (fun _ => spec_validLoans.l0.eq_2 ..) ?_
    rw [rdLn_at h3, w64s (by omega), w64 (x := n - 1) (by omega) (by omega), inRange_eq, inRange_eq]
    have no : ∀ {p : Prop}, (LO n e → p) → ¬ p → Tot (fun _ : Nat => some false) (fun t => t = decide (((l.length : Int) ≤ 16 ∧ 1 ≤ n ∧ n ≤ 12) ∧ ∀ x ∈ e :: r, LO n x)) := fun h hp => Tot.now (dfalse fun h2 => hp (h (h2.2 e (by simp))))
    refine Tot.pos (by omega) (Tot.pos (by omega) (Tot.known (Tot.ite (fun a1 => ?_) (fun a1 => no (fun h => (show 0 ≤ e.f0 ∧ e.f0 ≤ n - 1 by have := h.1; omega)) (by simpa using a1)))))
    refine Tot.known (Tot.ite (fun a2 => ?_) (fun a2 => no (fun h => h.2.1) (by simpa using a2)))
    refine Tot.ite (fun a3 => no (fun h => h.2.2.1) (by omega)) (fun a3 => ?_)
    refine Tot.bindv (validMembers_tot (by omega) (by omega) (by omega)) (Tot.ite (fun a4 => ?_) (fun a4 => no (fun h => h.2.2.2.1) (by simpa using a4)))
    refine Tot.bindv (placeIn_tot (by omega)) (Tot.ite (fun a5 => no (fun h => h.2.2.2.2) (fun hn => hn ((posFrom_ge (by omega)).1 a5))) (fun a5 => ?_))
    have a1 := of_decide_eq_true a1
    have hLO : LO n e := ⟨by omega, of_decide_eq_true a2, by omega, of_decide_eq_true a4, fun hm => a5 ((posFrom_ge (by omega)).2 hm)⟩
    refine (ih (i + 1) h2).mono ?_
    rintro t rfl
    rw [decide_eq_decide]
    simp only [List.mem_cons, forall_eq_or_imp]
    exact ⟨fun h => ⟨h.1, hLO, h.2⟩, fun h => ⟨h.1, h.2.2⟩⟩
theorem specLoans_bad {l : List Ln} {n : Int} (hl : l.length ≤ 1048576) (hw : ∀ e ∈ l, e.f2.length ≤ 1048576) (hn : ¬ (1 ≤ n ∧ n ≤ 12)) : ∀ (r : List Ln) (i : Nat), l.drop i = r →
    Tot (fun k => spec_validLoans.l0 k l n i) (fun t => t = false) := by
  intro r
  induction r with
  | nil =>
    intro i h
    have := drop_nil h
    refine Tot.step (fun _ => spec_validLoans.l0.eq_2 ..) (Tot.neg (by omega) (Tot.ite (fun h1 => ?_) (fun h1 => Tot.now rfl)))
    rw [inRange_eq]
    exact Tot.known (Tot.now (decide_eq_false hn))
  | cons e r ih =>
    intro i h
    obtain ⟨h1, h2, h3⟩ := drop_cons h
    have hx := hw e (List.mem_of_getElem? h3)
    refine Tot.step (fun _ => spec_validLoans.l0.eq_2 ..) ?_
    rw [rdLn_at h3, w64s (by omega), inRange_eq, inRange_eq]
    refine Tot.pos (by omega) (Tot.pos (by omega) (Tot.known (Tot.ite (fun a1 => Tot.known (Tot.ite (fun a2 => Tot.ite (fun a3 => Tot.now rfl) (fun a3 => ?_)) (fun a2 => Tot.now rfl))) (fun a1 => Tot.now rfl))))
    refine Tot.bind (P := fun _ => True) (by unfold spec_validMembers.f; exact validMembers_any (by omega) e.f2 0 rfl) ?_
    intro t _
    exact Tot.ite (fun _ => Tot.bindv (placeIn_tot (by omega)) (Tot.ite (fun _ => Tot.now rfl) (fun _ => ih (i + 1) h2))) (fun _ => Tot.now rfl)
theorem specLoans_tot {l : List Ln} {n : Int} (hl : l.length ≤ 1048576) (hw : ∀ e ∈ l, e.f2.length ≤ 1048576) : Tot (fun k => spec_validLoans.f k l n) (fun t => t = decide (LV l n)) := by
  unfold spec_validLoans.f
  by_cases hn : 1 ≤ n ∧ n ≤ 12
  · exact specLoans_l0 hl hw hn l 0 rfl
  · refine (specLoans_bad hl hw hn l 0 rfl).mono ?_
    rintro t rfl
    exact dfalse fun h => hn h.1.2
theorem getD_set_true {s : List Bool} {a b : Nat} (ha : a < s.length) : (s.set a true).getD b false = false ↔ b ≠ a ∧ s.getD b false = false := by
  simp only [List.getD_eq_getElem?_getD, List.getElem?_set]
  by_cases h : a = b
  · subst h; simp [ha]
  · rw [if_neg h]
    constructor
    · intro h2; exact ⟨fun e => h e.symm, h2⟩
    · intro h2; exact h2.2
theorem differentBelow_l0 {xs : List Int} {n : Int} (hl : xs.length ≤ 1000000000000) : ∀ (r : List Int) (i : Nat) (s : List Bool), xs.drop i = r → (s.length : Int) = n →
    Tot (fun k => impl_differentBelow.l0 k n s xs xs.length i) (fun t => t = decide ((∀ x ∈ r, (0 ≤ x ∧ x < n) ∧ s.getD x.toNat false = false) ∧ r.Nodup)) := by
  intro r
  induction r with
  | nil =>
    intro i s h hs
    have := drop_nil h
    exact Tot.step (fun _ => impl_differentBelow.l0.eq_2 ..) (Tot.neg (by omega) (Tot.now (by simp)))
  | cons x r ih =>
    intro i s h hs
    obtain ⟨h1, h2, h3⟩ := drop_cons h
    refine Tot.step (fun _ => impl_differentBelow.l0.eq_2 ..) ?_
    rw [rd_at h3, w64s (by omega)]
    refine Tot.pos (by omega) (Tot.pos (by omega) (Tot.pos (by omega) (Tot.ite (fun h4 => Tot.now ?_) (fun h4 => Tot.ite (fun h5 => Tot.now ?_) (fun h5 => Tot.pos (by omega) (Tot.pos (by omega) (Tot.ite (fun h6 => Tot.now ?_) (fun h6 => ?_))))))))
    · symm
      rw [decide_eq_false_iff_not]
      intro h7
      have := (h7.1 x (by simp)).1
      omega
    · symm
      rw [decide_eq_false_iff_not]
      intro h7
      have := (h7.1 x (by simp)).1
      omega
    · symm
      rw [decide_eq_false_iff_not]
      intro h7
      have h8 := (h7.1 x (by simp)).2
      rw [rdOf, h8] at h6
      cases h6
    · have h6' : s.getD x.toNat false = false := by
        rw [rdOf] at h6
        simpa using h6
      have hx : x.toNat < s.length := by omega
      refine (ih (i + 1) (s.set x.toNat true) h2 (by simp; omega)).mono ?_
      rintro t rfl
      rw [decide_eq_decide]
      constructor
      · rintro ⟨h9, h10⟩
        refine ⟨fun y hy => ?_, List.nodup_cons.2 ⟨fun hx2 => ?_, h10⟩⟩
        · rcases List.mem_cons.1 hy with rfl | hy
          · exact ⟨⟨by omega, by omega⟩, h6'⟩
          · exact ⟨(h9 y hy).1, ((getD_set_true hx).1 (h9 y hy).2).2⟩
        · exact ((getD_set_true hx).1 (h9 x hx2).2).1 rfl
      · rintro ⟨h9, h10⟩
        obtain ⟨h11, h12⟩ := List.nodup_cons.1 h10
        refine ⟨fun y hy => ⟨(h9 y (List.mem_cons_of_mem _ hy)).1, (getD_set_true hx).2 ⟨fun h13 => ?_, (h9 y (List.mem_cons_of_mem _ hy)).2⟩⟩, h12⟩
        have h14 := (h9 y (List.mem_cons_of_mem _ hy)).1
        have h15 : y = x := by omega
        exact h11 (h15 ▸ hy)
theorem differentBelow_tot {xs : List Int} {n : Int} (hl : xs.length ≤ 1000000000000) (hn : 0 ≤ n) (hn2 : n ≤ 1000000000000) : Tot (fun k => impl_differentBelow.f k xs n) (fun t => t = decide (DB xs n)) := by
  unfold impl_differentBelow.f
  refine Tot.ite (fun h => Tot.now ?_) (fun h => Tot.pos hn (Tot.pos (by omega) ?_))
  · symm
    rw [decide_eq_false_iff_not]
    intro h2
    have := h2.le hn
    omega
  · refine (differentBelow_l0 hl xs 0 _ rfl (by simp; omega)).mono ?_
    rintro t rfl
    rw [decide_eq_decide]
    have : ∀ j, (List.replicate n.toNat false).getD j false = false := by
      intro j
      simp only [List.getD_eq_getElem?_getD, List.getElem?_replicate]
      split <;> rfl
    simp only [this, and_true]
    exact Iff.rfl
theorem index_l0 {xs : List Int} {v : Int} (hl : xs.length ≤ 1000000000000) : ∀ (r : List Int) (i : Nat), xs.drop i = r →
    Tot (fun k => slices_Index_int_int.l0 k xs v xs.length i) (fun t => t = posFrom r v i) := by
  intro r
  induction r with
  | nil =>
    intro i h
    have := drop_nil h
    exact Tot.step (fun _ => slices_Index_int_int.l0.eq_2 ..) (Tot.neg (by omega) (Tot.now rfl))
  | cons x r ih =>
    intro i h
    obtain ⟨h1, h2, h3⟩ := drop_cons h
    refine Tot.step (fun _ => slices_Index_int_int.l0.eq_2 ..) ?_
    rw [rd_at h3, w64s (by omega), posFrom]
    refine Tot.pos (by omega) (Tot.pos (by omega) (Tot.pos (by omega) (Tot.ite (fun h4 => ?_) (fun h4 => ?_))))
    · rw [if_pos h4.symm]; exact Tot.now rfl
    · rw [if_neg (fun e => h4 e.symm)]; exact ih (i + 1) h2
theorem index_tot {xs : List Int} {v : Int} (hl : xs.length ≤ 1000000000000) : Tot (fun k => slices_Index_int_int.f k xs v) (fun t => t = posFrom xs v 0) := by
  unfold slices_Index_int_int.f
  exact index_l0 hl xs 0 rfl
theorem implLoans_l0 {l : List Ln} {n : Int} (hl : l.length ≤ 1048576) (hw : ∀ e ∈ l, e.f2.length ≤ 1048576) (hn : 1 ≤ n ∧ n ≤ 12) : ∀ (r : List Ln) (i : Nat), l.drop i = r →
    Tot (fun k => impl_ValidLoans.l0 k n l l.length i) (fun t => t = decide (∀ e ∈ r, LO n e)) := by
  intro r
  induction r with
  | nil =>
    intro i h
    have := drop_nil h
    exact Tot.step (fun _ => impl_ValidLoans.l0.eq_2 ..) (Tot.neg (by omega) (Tot.now (by simp)))
  | cons e r ih =>
    intro i h
    obtain ⟨h1, h2, h3⟩ := drop_cons h
    have hx := hw e (List.mem_of_getElem? h3)
    refine Tot.step (fun _ => impl_ValidLoans.l0.eq_2 ..) ?_
    rw [rdLn_at h3]
    have bad : ¬ LO n e → Tot (fun k => impl_ValidLoans.j2 k n l l.length i true e.f0 e.f1 e.f2) (fun t => t = decide (∀ x ∈ e :: r, LO n x)) := fun hp =>
      Tot.step (fun _ => impl_ValidLoans.j2.eq_2 ..) (Tot.pos rfl (Tot.now (dfalse fun h2 => hp (h2 e (by simp)))))
    have no : ∀ {p : Prop}, (LO n e → p) → ¬ p → Tot (fun _ : Nat => some false) (fun t => t = decide (∀ x ∈ e :: r, LO n x)) := fun h hp => Tot.now (dfalse fun h2 => hp (h (h2 e (by simp))))
    refine Tot.pos (by omega) (Tot.pos (by omega) (Tot.pos (by omega) (Tot.ite (fun a1 => bad fun h => by have := h.1; omega) (fun a1 => Tot.ite (fun a2 => bad fun h => by have := h.1; omega) (fun a2 => Tot.ite (fun a3 => bad fun h => by have := h.2.1; omega) (fun a3 => ?_))))))
    by_cases a4 : e.f1 > 100000
    · rw [decide_eq_true a4]; exact bad fun h => by have := h.2.1; omega
    rw [decide_eq_false a4]
    refine Tot.step (fun _ => impl_ValidLoans.j2.eq_2 ..) (Tot.neg (by decide) (Tot.ite (fun a5 => no (fun h => h.2.2.1) (by omega)) (fun a5 => ?_)))
    rw [w64s (by omega)]
    refine Tot.bindv (differentBelow_tot (by omega) (by omega) (by omega)) (Tot.ite (fun a6 => ?_) (fun a6 => no (fun h => h.2.2.2.1) (by simpa using a6)))
    unfold slices_Contains_int_int.f
    refine Tot.bindv (v := decide (posFrom e.f2 e.f0 0 ≥ 0)) (Tot.bindv (index_tot (by omega)) (Tot.now rfl)) (Tot.ite (fun a7 => no (fun h => h.2.2.2.2) (fun hn => hn ((posFrom_ge (by omega)).1 (of_decide_eq_true a7)))) (fun a7 => ?_))
    have hLO : LO n e := ⟨by omega, by omega, by omega, of_decide_eq_true a6, fun hm => a7 (decide_eq_true ((posFrom_ge (by omega)).2 hm))⟩
    refine (ih (i + 1) h2).mono ?_
    rintro t rfl
    rw [decide_eq_decide]
    simp only [List.mem_cons, forall_eq_or_imp]
    exact ⟨fun h => ⟨hLO, h⟩, fun h => h.2⟩
theorem implLoans_tot {l : List Ln} {n : Int} (hl : l.length ≤ 1048576) (hw : ∀ e ∈ l, e.f2.length ≤ 1048576) : Tot (fun k => impl_ValidLoans.f k l n) (fun t => t = decide (LV l n)) := by
  unfold impl_ValidLoans.f
  have bad : ¬ LV l n → Tot (fun k => impl_ValidLoans.j0 k l n true) (fun t => t = decide (LV l n)) := fun h =>
    Tot.step (fun _ => impl_ValidLoans.j0.eq_2 ..) (Tot.pos rfl (Tot.now (dfalse h)))
  refine Tot.ite (fun h1 => bad fun h => by have := h.1; omega) (fun h1 => Tot.ite (fun h2 => bad fun h => by have := h.1; omega) (fun h2 => ?_))
  by_cases h3 : n > 12
  · rw [decide_eq_true h3]; exact bad fun h => by have := h.1; omega
  rw [decide_eq_false h3]
  refine Tot.step (fun _ => impl_ValidLoans.j0.eq_2 ..) (Tot.neg (by decide) ((implLoans_l0 hl hw (by omega) l 0 rfl).mono ?_))
  rintro t rfl
  rw [decide_eq_decide]
  exact ⟨fun h => ⟨by omega, h⟩, fun h => h.2⟩
theorem drawLoans_tot {l : List Int} (hw : ∀ x ∈ l, (Lit.int .u8 x).wf = true) : Tot (fun k => spec_DrawValidLoans.f k l) (fun r => r.1.length ≤ 100 ∧ ∀ e ∈ r.1, e.f2.length ≤ 1048576) := by
  unfold spec_DrawValidLoans.f
  obtain ⟨b, hb, hb2, hb3⟩ := newReader_tot hw
  rw [hb]
  refine Tot.known (Tot.bind (anyLoans_tot hb3 (Int.le_refl _) (by omega)) ?_)
  rintro ⟨r, n, q⟩ h
  exact Tot.now h
theorem dropLoan_eq {l : List Ln} {i : Nat} (hl : l.length ≤ 100) (hi : i < l.length) : laws_dropLoan.f l i = some (l.take i ++ l.drop (i + 1)) := by
  unfold laws_dropLoan.f
  rw [w64s (by omega)]
  simp only [Option.bind_some, Int.toNat_natCast, List.nil_append, List.length_nil, Nat.zero_add]
  rw [if_pos (by omega), if_pos (by omega), if_pos (by simp; omega), if_pos (by omega), if_pos (by omega), if_pos (by simp; omega)]
theorem lawLoop {l : List Ln} {n : Int} (h : LV l n) (hw : ∀ e ∈ l, e.f2.length ≤ 1048576) : ∀ (d i : Nat), i + d = l.length → Tot (fun k => laws_FnValidLoans.l0 k l n i) (fun t => t = true) := by
  have hl := h.1
  intro d
  induction d with
  | zero =>
    intro i hi
    exact Tot.step (fun _ => laws_FnValidLoans.l0.eq_2 ..) (Tot.neg (by omega) (Tot.now rfl))
  | succ d ih =>
    intro i hi
    refine Tot.step (fun _ => laws_FnValidLoans.l0.eq_2 ..) (Tot.pos (by omega) ?_)
    have hmem : ∀ e ∈ l.take i ++ l.drop (i + 1), e ∈ l := by
      intro e he
      rcases List.mem_append.1 he with he | he
      · exact List.mem_of_mem_take he
      · exact List.mem_of_mem_drop he
    have hlen : (l.take i ++ l.drop (i + 1)).length ≤ l.length := by simp; omega
    rw [dropLoan_eq (by omega) (by omega), w64s (by omega)]
    refine Tot.known (Tot.bindv (implLoans_tot (by omega) (fun e he => hw e (hmem e he))) ?_)
    exact Tot.pos (decide_eq_true ⟨⟨by omega, hl.2⟩, fun e he => h.2 e (hmem e he)⟩) (ih (i + 1) (by omega))
theorem FnValidLoans : laws_FnValidLoans.Pure := by
  intro l hl hl2 hw
  refine Tot.ends (g := fun k => laws_FnValidLoans.f k l) ?_
  unfold laws_FnValidLoans.f
  refine Tot.ite (fun _ => Tot.now rfl) (fun _ => ?_)
  refine Tot.bind (drawLoans_tot hw) ?_
  rintro ⟨xs, n⟩ ⟨h1, h2⟩
  dsimp only at h1 h2 ⊢
  have hsp : Tot (fun k => spec_ValidLoans.f k xs n) (fun t => t = decide (LV xs n)) := by
    unfold spec_ValidLoans.f
    exact Tot.bindv (specLoans_tot (by omega) h2) (Tot.now rfl)
  refine Tot.bindv (implLoans_tot (by omega) h2) (Tot.bindv hsp (Tot.neg (by simp) ?_))
  refine Tot.step (fun _ => laws_FnValidLoans.j0.eq_2 ..) (Tot.ite (fun h => ?_) (fun h => ?_))
  · exact Tot.bindv hsp (Tot.now (by simp))
  · exact lawLoop (by simpa using h) h2 xs.length 0 (by omega)
end Go.Proofs.Ytlghjnmfccifeaa.Pure
