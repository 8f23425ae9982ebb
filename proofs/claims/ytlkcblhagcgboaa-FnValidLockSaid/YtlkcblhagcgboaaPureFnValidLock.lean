/- FnValidLock: for every code, a valid lock with Need 1 is valid, and so is each of its Kids. No condition beyond the statement's own. -/
import Derived.Test.YtlkcblhagcgboaaQFnValidLockx5
import Derived.Test.YtlkcblhagcgboaaCore
namespace Go.Proofs.Ytlkcblhagcgboaa.Pure
open Go.RowKit Go.Proofs.Ytlkcblhagcgboaa.PFnValidLock Go.Proofs.YtlkcblhagcgboaaW.PrintWords
set_option linter.unusedSimpArgs false
set_option linter.unusedVariables false

/-! the reader -/
theorem pick_tot {b : List Int} (hb : ∀ x ∈ b, 0 ≤ x ∧ x < 256) {p n : Int} (hp : 0 ≤ p) (hp2 : p ≤ 1000000000) (hn : n ≤ 1000000000000) :
    Tot (fun k => spec_reader_pick.f k b p n) (fun r => r.2 = p + 1 ∧ 0 ≤ r.1 ∧ (r.1 < n ∨ r.1 = 0)) := by
  have e1 : wrap64 (p + 1) = p + 1 := w64 (by omega) (by omega)
  have e2 : wrap64 (p + 1 - 1) = p := by rw [w64 (by omega) (by omega)]; omega
  have main : ∀ t : Bool, (t = false → 1 ≤ n ∧ b.length ≠ 0) → Tot (fun k => spec_reader_pick.j0 k n t b (p + 1)) (fun r => r.2 = p + 1 ∧ 0 ≤ r.1 ∧ (r.1 < n ∨ r.1 = 0)) := by
    intro t ht
    refine Tot.step (fun _ => spec_reader_pick.j0.eq_2 ..) ?_
    simp only [e2]
    cases t with
    | true => exact Tot.pos rfl (Tot.now ⟨rfl, Int.le_refl _, .inr rfl⟩)
    | false =>
      obtain ⟨hn1, hne⟩ := ht rfl
      refine Tot.neg (by simp) ?_
      by_cases hlt : p < (b.length : Int)
      · refine Tot.pos hlt (Tot.pos hp (Tot.neg (by omega) ?_))
        have hr := hb _ (rd_mem hp hlt)
        rw [w64 (x := rd b p) (by omega) (by omega), tmod_nn hr.1]
        exact Tot.now ⟨rfl, Int.emod_nonneg _ (by omega), .inl (Int.emod_lt_of_pos _ (by omega))⟩
      · refine Tot.neg hlt (Tot.neg (by omega) ?_)
        have hlen : 0 < (b.length : Int) := by omega
        have i1 : 0 ≤ Int.tmod p b.length ∧ Int.tmod p b.length < b.length := by
          rw [tmod_nn hp]; exact ⟨Int.emod_nonneg _ (by omega), Int.emod_lt_of_pos _ hlen⟩
        have e3 : wrap64 (wrap64 (p * 7) + 3) = p * 7 + 3 := by
          rw [w64 (x := p * 7) (by omega) (by omega)]; exact w64 (by omega) (by omega)
        rw [e3]
        have i2 : 0 ≤ Int.tmod (p * 7 + 3) b.length ∧ Int.tmod (p * 7 + 3) b.length < b.length := by
          rw [tmod_nn (by omega)]; exact ⟨Int.emod_nonneg _ (by omega), Int.emod_lt_of_pos _ hlen⟩
        refine Tot.pos i1.1 (Tot.pos i1.2 (Tot.pos i2.1 (Tot.pos i2.2 (Tot.neg (by omega) ?_))))
        have hu := hb _ (rd_mem i1.1 i1.2)
        have hv := hb _ (rd_mem i2.1 i2.2)
        have hq : 0 ≤ Int.tdiv p b.length ∧ Int.tdiv p b.length ≤ p := by
          rw [tdiv_nn hp]
          exact ⟨Int.ediv_nonneg hp (by omega), Int.ediv_le_self _ hp⟩
        generalize rd b (Int.tmod p b.length) = u at hu ⊢
        generalize rd b (Int.tmod (p * 7 + 3) b.length) = v at hv ⊢
        generalize Int.tdiv p b.length = q at hq ⊢
        rw [w64 (x := u) (by omega) (by omega), w64 (x := v) (by omega) (by omega), w64 (x := q) (by omega) (by omega), w64 (x := u * 131) (by omega) (by omega), w64 (x := v * 1117) (by omega) (by omega), w64 (x := p * 29) (by omega) (by omega), w64 (x := q * 53) (by omega) (by omega),
          w64 (x := u * 131 + v * 1117) (by omega) (by omega), w64 (x := u * 131 + v * 1117 + p * 29) (by omega) (by omega), w64 (x := u * 131 + v * 1117 + p * 29 + q * 53) (by omega) (by omega)]
        have hx : 0 ≤ u * 131 + v * 1117 + p * 29 + q * 53 ∧ u * 131 + v * 1117 + p * 29 + q * 53 < 4611686018427387904 := by omega
        generalize u * 131 + v * 1117 + p * 29 + q * 53 = x at hx ⊢
        rw [tdiv_nn hx.1, w64 (x := x / 64) (by omega) (by omega)]
        have hz := xor_nn hx.1 hx.2 (b := x / 64) (by omega) (by omega)
        rw [tmod_nn hz]
        exact Tot.now ⟨rfl, Int.emod_nonneg _ (by omega), .inl (Int.emod_lt_of_pos _ (by omega))⟩
  unfold spec_reader_pick.f
  rw [e1]
  refine Tot.ite (fun _ => main true (fun h => by cases h)) (fun h => main _ (fun h2 => ⟨by omega, fun h3 => ?_⟩))
  rw [h3] at h2
  simp at h2
theorem one_tot {b : List Int} (hb : ∀ x ∈ b, 0 ≤ x ∧ x < 256) {p : Int} (hp : 0 ≤ p) (hp2 : p ≤ 1000000000) {l : List Int} (hl : 0 < l.length) (hl2 : l.length ≤ 1000) :
    Tot (fun k => spec_reader_one.f k b p l) (fun r => r.2 = p + 1 ∧ r.1 ∈ l) := by
  unfold spec_reader_one.f
  refine Tot.bind (pick_tot hb hp hp2 (by omega)) ?_
  rintro ⟨v, q⟩ ⟨h1, h2, h3⟩
  simp only at h1 h2 h3 ⊢
  have h4 : v < (l.length : Int) := by omega
  exact Tot.pos h2 (Tot.pos h4 (Tot.now ⟨h1, rd_mem h2 h4⟩))
theorem newReader_tot {l : List Int} (h : ∀ x ∈ l, (Lit.int .u8 x).wf = true) : ∃ b, spec_newReader.f l = some (b, 0) ∧ b.length ≤ 2000 ∧ ∀ x ∈ b, 0 ≤ x ∧ x < 256 := by
  unfold spec_newReader.f
  by_cases h1 : (l.length : Int) > 2000
  · rw [if_pos h1, if_pos (by omega)]
    exact ⟨_, rfl, by simp; omega, fun x hx => wf_u8 (h x (List.mem_of_mem_take hx))⟩
  · rw [if_neg h1]
    exact ⟨_, rfl, by omega, fun x hx => wf_u8 (h x hx)⟩
theorem getD_set_true {s : List Bool} {a b : Nat} (ha : a < s.length) : (s.set a true).getD b false = false ↔ b ≠ a ∧ s.getD b false = false := by
  simp only [List.getD_eq_getElem?_getD, List.getElem?_set]
  by_cases h : a = b
  · subst h; simp [ha]
  · rw [if_neg h]
    constructor
    · intro h2; exact ⟨fun e => h e.symm, h2⟩
    · intro h2; exact h2.2
theorem differentBelow_l0 {xs : List Int} {n : Int} (hl : xs.length ≤ 1000000000000) : ∀ (r : List Int) (i : Nat) (s : List Bool), xs.drop i = r → (s.length : Int) = n →
    Tot (fun k => impl_differentBelow.l0 k n s xs xs.length i) (fun t => t = decide ((∀ x ∈ r, (0 ≤ x ∧ x < n) ∧ s.getD x.toNat false = false) ∧ r.Nodup)) := by
  intro r
  induction r with
  | nil =>
    intro i s h hs
    have := drop_nil h
    exact Tot.step (fun _ => impl_differentBelow.l0.eq_2 ..) (Tot.neg (by omega) (Tot.now (by simp)))
  | cons x r ih =>
    intro i s h hs
    obtain ⟨h1, h2, h3⟩ := drop_cons h
    refine Tot.step (fun _ => impl_differentBelow.l0.eq_2 ..) ?_
    rw [rd_at h3, w64s (by omega)]
    refine Tot.pos (by omega) (Tot.pos (by omega) (Tot.pos (by omega) (Tot.ite (fun h4 => Tot.now ?_) (fun h4 => Tot.ite (fun h5 => Tot.now ?_) (fun h5 => Tot.pos (by omega) (Tot.pos (by omega) (Tot.ite (fun h6 => Tot.now ?_) (fun h6 => ?_))))))))
    · symm
      rw [decide_eq_false_iff_not]
      intro h7
      have := (h7.1 x (by simp)).1
      omega
    · symm
      rw [decide_eq_false_iff_not]
      intro h7
      have := (h7.1 x (by simp)).1
      omega
    · symm
      rw [decide_eq_false_iff_not]
      intro h7
      have h8 := (h7.1 x (by simp)).2
      rw [rdOf, h8] at h6
      cases h6
    · have h6' : s.getD x.toNat false = false := by
        rw [rdOf] at h6
        simpa using h6
      have hx : x.toNat < s.length := by omega
      refine (ih (i + 1) (s.set x.toNat true) h2 (by simp; omega)).mono ?_
      rintro t rfl
      rw [decide_eq_decide]
      constructor
      · rintro ⟨h9, h10⟩
        refine ⟨fun y hy => ?_, List.nodup_cons.2 ⟨fun hx2 => ?_, h10⟩⟩
        · rcases List.mem_cons.1 hy with rfl | hy
          · exact ⟨⟨by omega, by omega⟩, h6'⟩
          · exact ⟨(h9 y hy).1, ((getD_set_true hx).1 (h9 y hy).2).2⟩
        · exact ((getD_set_true hx).1 (h9 x hx2).2).1 rfl
      · rintro ⟨h9, h10⟩
        obtain ⟨h11, h12⟩ := List.nodup_cons.1 h10
        refine ⟨fun y hy => ⟨(h9 y (List.mem_cons_of_mem _ hy)).1, (getD_set_true hx).2 ⟨fun h13 => ?_, (h9 y (List.mem_cons_of_mem _ hy)).2⟩⟩, h12⟩
        have h14 := (h9 y (List.mem_cons_of_mem _ hy)).1
        have h15 : y = x := by omega
        exact h11 (h15 ▸ hy)
theorem differentBelow_tot {xs : List Int} {n : Int} (hl : xs.length ≤ 1000000000000) (hn : 0 ≤ n) (hn2 : n ≤ 1000000000000) : Tot (fun k => impl_differentBelow.f k xs n) (fun t => t = decide (DB xs n)) := by
  unfold impl_differentBelow.f
  refine Tot.ite (fun h => Tot.now ?_) (fun h => Tot.pos hn (Tot.pos (by omega) ?_))
  · symm
    rw [decide_eq_false_iff_not]
    intro h2
    have := h2.le hn
    omega
  · refine (differentBelow_l0 hl xs 0 _ rfl (by simp; omega)).mono ?_
    rintro t rfl
    rw [decide_eq_decide]
    have : ∀ j, (List.replicate n.toNat false).getD j false = false := by
      intro j
      simp only [List.getD_eq_getElem?_getD, List.getElem?_replicate]
      split <;> rfl
    simp only [this, and_true]
    exact Iff.rfl
theorem inRange_eq (a b c : Int) : spec_inRange.f a b c = some (decide (b ≤ a ∧ a ≤ c)) := by
  unfold spec_inRange.f
  by_cases h : b ≤ a
  · rw [if_pos h]; simp [h]
  · rw [if_neg h]; simp [h]
theorem placeIn_l0 {xs : List Int} {v : Int} (hl : xs.length ≤ 1000000000000) : ∀ (r : List Int) (i : Nat), xs.drop i = r →
    Tot (fun k => spec_placeIn.l0 k xs v i) (fun t => t = posFrom r v i) := by
  intro r
  induction r with
  | nil =>
    intro i h
    have := drop_nil h
    exact Tot.step (fun _ => spec_placeIn.l0.eq_2 ..) (Tot.neg (by omega) (Tot.now rfl))
  | cons x r ih =>
    intro i h
    obtain ⟨h1, h2, h3⟩ := drop_cons h
    refine Tot.step (fun _ => spec_placeIn.l0.eq_2 ..) ?_
    rw [rd_at h3, w64s (by omega), posFrom]
    refine Tot.pos (by omega) (Tot.pos (by omega) (Tot.ite (fun h4 => ?_) (fun h4 => ?_)))
    · rw [if_pos h4]; exact Tot.now rfl
    · rw [if_neg h4]; exact ih (i + 1) h2
theorem placeIn_tot {xs : List Int} {v : Int} (hl : xs.length ≤ 1000000000000) : Tot (fun k => spec_placeIn.f k xs v) (fun t => t = posFrom xs v 0) := by
  unfold spec_placeIn.f
  exact placeIn_l0 hl xs 0 rfl
theorem validMembers_l0 {xs : List Int} {n : Int} (hl : xs.length ≤ 1000000000000) (hn : 0 ≤ n) (hn2 : n ≤ 1000000000000) : ∀ (r : List Int) (i : Nat), xs.drop i = r →
    Tot (fun k => spec_validMembers.l0 k xs n i) (fun t => t = decide ((∀ x ∈ r, (0 ≤ x ∧ x < n) ∧ x ∉ xs.take i) ∧ r.Nodup)) := by
  intro r
  induction r with
  | nil =>
    intro i h
    have := drop_nil h
    exact Tot.step (fun _ => spec_validMembers.l0.eq_2 ..) (Tot.neg (by omega) (Tot.now (by simp)))
  | cons x r ih =>
    intro i h
    obtain ⟨h1, h2, h3⟩ := drop_cons h
    refine Tot.step (fun _ => spec_validMembers.l0.eq_2 ..) ?_
    rw [rd_at h3, w64s (by omega), w64 (x := n - 1) (by omega) (by omega), inRange_eq]
    simp only [Option.bind_some, decide_eq_true_eq]
    refine Tot.pos (by omega) (Tot.pos (by omega) (Tot.ite (fun h4 => Tot.pos (by omega) ?_) (fun h4 => Tot.now ?_)))
    · rw [Int.toNat_natCast]
      refine Tot.bind (placeIn_tot (by simp; omega)) ?_
      rintro t rfl
      refine Tot.ite (fun h5 => Tot.now ?_) (fun h5 => ?_)
      · have h6 := (posFrom_ge (l := xs.take i) (v := x) (Int.le_refl 0)).1 h5
        symm
        rw [decide_eq_false_iff_not]
        intro h7
        exact (h7.1 x (by simp)).2 h6
      · have h6 : x ∉ xs.take i := fun h7 => h5 ((posFrom_ge (l := xs.take i) (v := x) (Int.le_refl 0)).2 h7)
        refine (ih (i + 1) h2).mono ?_
        rintro t rfl
        have h8 : xs.take (i + 1) = xs.take i ++ [x] := by rw [List.take_add_one, h3]; rfl
        rw [h8, decide_eq_decide]
        constructor
        · rintro ⟨h9, h10⟩
          refine ⟨fun y hy => ?_, List.nodup_cons.2 ⟨fun hx => ?_, h10⟩⟩
          · rcases List.mem_cons.1 hy with rfl | hy
            · exact ⟨⟨h4.1, by omega⟩, h6⟩
            · exact ⟨(h9 y hy).1, fun h11 => (h9 y hy).2 (List.mem_append_left _ h11)⟩
          · exact (h9 x hx).2 (by simp)
        · rintro ⟨h9, h10⟩
          obtain ⟨h11, h12⟩ := List.nodup_cons.1 h10
          refine ⟨fun y hy => ⟨(h9 y (List.mem_cons_of_mem _ hy)).1, fun h13 => ?_⟩, h12⟩
          rcases List.mem_append.1 h13 with h13 | h13
          · exact (h9 y (List.mem_cons_of_mem _ hy)).2 h13
          · rw [List.mem_singleton] at h13
            exact h11 (h13 ▸ hy)
    · symm
      rw [decide_eq_false_iff_not]
      intro h7
      have := (h7.1 x (by simp)).1
      omega
theorem validMembers_tot {xs : List Int} {n : Int} (hl : xs.length ≤ 1000000000000) (hn : 0 ≤ n) (hn2 : n ≤ 1000000000000) : Tot (fun k => spec_validMembers.f k xs n) (fun t => t = decide (DB xs n)) := by
  unfold spec_validMembers.f
  refine (validMembers_l0 hl hn hn2 xs 0 rfl).mono ?_
  rintro t rfl
  rw [decide_eq_decide]
  simp [DB]
/-! locks -/
abbrev Lk := S71
mutual
def cnt : Lk → Int
  | ⟨_, _, ks⟩ => 1 + cntL ks
def cntL : List Lk → Int
  | [] => 0
  | x :: r => cnt x + cntL r
end
mutual
def okT : Lk → Bool
  | ⟨n, ms, ks⟩ => decide (1 ≤ n ∧ n ≤ (ms.length : Int) + (ks.length : Int) ∧ (ms.length : Int) + (ks.length : Int) ≤ 8 ∧ DB ms 8) && okTL ks
def okTL : List Lk → Bool
  | [] => true
  | x :: r => okT x && okTL r
end
mutual
def smallT : Lk → Prop
  | ⟨_, ms, ks⟩ => ms.length ≤ 10000000 ∧ ks.length ≤ 10000000 ∧ smallTL ks
def smallTL : List Lk → Prop
  | [] => True
  | x :: r => smallT x ∧ smallTL r
end
theorem smallTL_iff : ∀ {l : List Lk}, smallTL l ↔ ∀ x ∈ l, smallT x := by
  intro l
  induction l with
  | nil => simp [smallTL]
  | cons x r ih => simp [smallTL, ih]
theorem okTL_iff : ∀ {l : List Lk}, okTL l = true ↔ ∀ x ∈ l, okT x = true := by
  intro l
  induction l with
  | nil => simp [okTL]
  | cons x r ih => simp [okTL, ih]
mutual
theorem cnt_pos : ∀ x : Lk, 1 ≤ cnt x
  | ⟨_, _, ks⟩ => by
    have := cntL_nn ks
    rw [cnt]; omega
theorem cntL_nn : ∀ l : List Lk, 0 ≤ cntL l
  | [] => by simp [cntL]
  | x :: r => by
    have h1 := cnt_pos x
    have h2 := cntL_nn r
    rw [cntL]; omega
end
theorem cntL_append : ∀ (a b : List Lk), cntL (a ++ b) = cntL a + cntL b := by
  intro a b
  induction a with
  | nil => simp [cntL]
  | cons x a ih => simp only [List.cons_append, cntL, ih]; omega
theorem cnt_mem : ∀ {l : List Lk} {x : Lk}, x ∈ l → cnt x ≤ cntL l := by
  intro l
  induction l with
  | nil => intro x h; cases h
  | cons y r ih =>
    intro x h
    have h1 := cnt_pos y
    have h2 := cntL_nn r
    rw [cntL]
    rcases List.mem_cons.1 h with rfl | h
    · omega
    · have := ih h; omega
theorem rdLk_at {l : List Lk} {i : Nat} {r : Lk} (h : l[i]? = some r) : rd_T71 l (i : Int) = r := by
  simp [rd_T71, List.getD_eq_getElem?_getD, h]
theorem size_kid {n : Int} {ms : List Int} {ks : List Lk} {x : Lk} (h : x ∈ ks) : SizeOf.sizeOf x < SizeOf.sizeOf (⟨n, ms, ks⟩ : Lk) := by
  have h1 := List.sizeOf_lt_of_mem h
  simp only [S71.mk.sizeOf_spec]
  omega
theorem etaL (x : Lk) : (⟨x.f0, x.f1, x.f2⟩ : Lk) = x := by cases x; rfl
def cOK (l : Lk) (most : Int) : Prop := okT l = true ∧ cnt l ≤ most
instance (l : Lk) (m : Int) : Decidable (cOK l m) := inferInstanceAs (Decidable (okT l = true ∧ cnt l ≤ m))
/-- What lockCount tells. -/
def CP (l : Lk) (most : Int) (t : Int) : Prop := (cOK l most ∧ t = cnt l) ∨ (¬ cOK l most ∧ 12 < t ∧ t ≤ 13 + 12 * (if most < 0 then 0 else most))
theorem lockCount_tot : ∀ (s : Nat) (n : Int) (ms : List Int) (ks : List Lk) (most : Int), SizeOf.sizeOf (⟨n, ms, ks⟩ : Lk) ≤ s → smallT ⟨n, ms, ks⟩ → most ≤ 12 → -100 ≤ most →
    Tot (fun k => impl_lockCount.f k n ms ks most) (CP ⟨n, ms, ks⟩ most) := by
  intro s
  induction s with
  | zero =>
    intro n ms ks most hs _ _ _
    simp only [S71.mk.sizeOf_spec] at hs
    omega
  | succ s ih =>
    intro n ms ks most hs hsm hm hm2
    rw [smallT] at hsm
    obtain ⟨s1, s2, s3⟩ := hsm
    rw [smallTL_iff] at s3
    refine Tot.step (fun _ => impl_lockCount.f.eq_2 ..) ?_
    rw [w64 (x := (ms.length : Int) + (ks.length : Int)) (by omega) (by omega)]
    have bad : ¬ cOK ⟨n, ms, ks⟩ most → Tot (fun k => impl_lockCount.j0 k most true n ms ks) (CP ⟨n, ms, ks⟩ most) := by
      intro hc
      refine Tot.step (fun _ => impl_lockCount.j0.eq_2 ..) (Tot.pos rfl (Tot.now (.inr ⟨hc, by omega, ?_⟩)))
      split <;> omega
    have pos := cnt_pos ⟨n, ms, ks⟩
    refine Tot.ite (fun h => bad (fun hc => ?_)) (fun h1 => Tot.ite (fun h => bad (fun hc => ?_)) (fun h2 => Tot.ite (fun h => bad (fun hc => ?_)) (fun h3 => Tot.ite (fun h => bad (fun hc => ?_)) (fun h4 => ?_))))
    · have := hc.2; omega
    · have := hc.1; simp [okT] at this; omega
    · have := hc.1; simp [okT] at this; omega
    · have := hc.1; simp [okT] at this; omega
    · refine Tot.bind (differentBelow_tot (by omega) (by omega) (by omega)) ?_
      rintro _ rfl
      refine Tot.step (fun _ => impl_lockCount.j0.eq_2 ..) ?_
      by_cases hd : DB ms 8
      · refine Tot.neg (by simp [hd]) ?_
        have hloc : okT ⟨n, ms, ks⟩ = okTL ks := by
          rw [okT]
          have : decide (1 ≤ n ∧ n ≤ (ms.length : Int) + (ks.length : Int) ∧ (ms.length : Int) + (ks.length : Int) ≤ 8 ∧ DB ms 8) = true := by
            rw [decide_eq_true_iff]
            exact ⟨by omega, by omega, by omega, hd⟩
          rw [this, Bool.true_and]
        have hcn : cnt ⟨n, ms, ks⟩ = 1 + cntL ks := by rw [cnt]
        -- the loop
        have loop : ∀ (r : List Lk) (i : Nat) (c : Int), ks.drop i = r → c = 1 + cntL (ks.take i) → c ≤ most → (∀ x ∈ ks.take i, okT x = true) →
            Tot (fun k => impl_lockCount.l0 k most c ks ks.length i) (CP ⟨n, ms, ks⟩ most) := by
          intro r
          induction r with
          | nil =>
            intro i c h hc hcm hok
            have hlen := drop_nil h
            have htk : ks.take i = ks := List.take_of_length_le hlen
            rw [htk] at hc hok
            refine Tot.step (fun _ => impl_lockCount.l0.eq_2 ..) (Tot.neg (by omega) (Tot.now (.inl ⟨⟨?_, ?_⟩, ?_⟩)))
            · rw [hloc]; exact okTL_iff.2 hok
            · rw [hcn]; omega
            · rw [hcn]; exact hc
          | cons x r ihr =>
            intro i c h hc hcm hok
            obtain ⟨g1, g2, g3⟩ := drop_cons h
            have hx := List.mem_of_getElem? g3
            have hc1 := cntL_nn (ks.take i)
            have htk : ks.take (i + 1) = ks.take i ++ [x] := by rw [List.take_add_one, g3]; rfl
            have hcx : cntL (ks.take (i + 1)) = cntL (ks.take i) + cnt x := by rw [htk, cntL_append]; simp [cntL]
            have hcall : cntL (ks.take (i + 1)) ≤ cntL ks := by
              conv => rhs; rw [← List.take_append_drop (i + 1) ks]
              rw [cntL_append]
              have := cntL_nn (ks.drop (i + 1))
              omega
            refine Tot.step (fun _ => impl_lockCount.l0.eq_2 ..) (Tot.pos (by omega) (Tot.pos (by omega) (Tot.pos (by omega) ?_)))
            rw [rdLk_at g3, w64s (by omega), w64 (x := most - c) (by omega) (by omega)]
            have hsz : SizeOf.sizeOf x ≤ s := by have := size_kid (n := n) (ms := ms) hx; omega
            have ihx := ih x.f0 x.f1 x.f2 (most - c) (by rw [etaL]; exact hsz) (by rw [etaL]; exact s3 x hx) (by omega) (by omega)
            rw [etaL] at ihx
            refine Tot.bind ihx ?_
            rintro t (⟨⟨t1, t2⟩, t3⟩ | ⟨t1, t2, t3⟩)
            · have hxp := cnt_pos x
              subst t3
              rw [w64 (x := c + cnt x) (by omega) (by omega)]
              refine Tot.neg (by omega) (ihr (i + 1) _ g2 (by omega) (by omega) ?_)
              intro y hy
              rw [htk] at hy
              rcases List.mem_append.1 hy with hy | hy
              · exact hok y hy
              · rw [List.mem_singleton] at hy
                rw [hy]; exact t1
            · rw [if_neg (by omega)] at t3
              rw [w64 (x := c + t) (by omega) (by omega)]
              refine Tot.pos (by omega) (Tot.now (.inr ⟨?_, by omega, ?_⟩))
              · rintro ⟨u1, u2⟩
                rw [hloc] at u1
                rw [hcn] at u2
                refine t1 ⟨okTL_iff.1 u1 x hx, ?_⟩
                show cnt x ≤ most - c
                omega
              · rw [if_neg (by omega)]; omega
        exact loop ks 0 1 rfl (by simp [cntL]) (by omega) (by simp)
      · refine Tot.pos (by simp [hd]) (Tot.now (.inr ⟨fun hc => ?_, by omega, ?_⟩))
        · have := hc.1; simp [okT] at this; exact hd this.1.2.2.2
        · split <;> omega
theorem implValidLock_tot {n : Int} {ms : List Int} {ks : List Lk} (h : smallT ⟨n, ms, ks⟩) : Tot (fun k => impl_ValidLock.f k n ms ks) (fun t => t = decide (cOK ⟨n, ms, ks⟩ 12)) := by
  unfold impl_ValidLock.f
  refine Tot.bind (lockCount_tot _ n ms ks 12 (Nat.le_refl _) h (by omega) (by omega)) ?_
  rintro t (⟨t1, t2⟩ | ⟨t1, t2, t3⟩)
  · refine Tot.now ?_
    rw [decide_eq_decide]
    exact ⟨fun _ => t1, fun _ => by rw [t2]; exact t1.2⟩
  · refine Tot.now ?_
    rw [decide_eq_decide]
    exact ⟨fun h => by omega, fun h => absurd h t1⟩
def szOf (l : Lk) : Int := if cOK l 12 then cnt l else -1
theorem lockSize_tot : ∀ (s : Nat) (n : Int) (ms : List Int) (ks : List Lk), SizeOf.sizeOf (⟨n, ms, ks⟩ : Lk) ≤ s → smallT ⟨n, ms, ks⟩ →
    Tot (fun k => spec_lockSize.f k n ms ks) (fun t => t = szOf ⟨n, ms, ks⟩) := by
  intro s
  induction s with
  | zero =>
    intro n ms ks hs _
    simp only [S71.mk.sizeOf_spec] at hs
    omega
  | succ s ih =>
    intro n ms ks hs hsm
    rw [smallT] at hsm
    obtain ⟨s1, s2, s3⟩ := hsm
    rw [smallTL_iff] at s3
    have hcn : cnt ⟨n, ms, ks⟩ = 1 + cntL ks := by rw [cnt]
    refine Tot.step (fun _ => spec_lockSize.f.eq_2 ..) ?_
    have loop : ∀ (r : List Lk) (i : Nat) (c : Int), ks.drop i = r → c = 1 + cntL (ks.take i) → c ≤ 1 + 12 * i → (∀ x ∈ ks.take i, cOK x 12) →
        Tot (fun k => spec_lockSize.l0 k c i n ms ks) (fun t => t = szOf ⟨n, ms, ks⟩) := by
      intro r
      induction r with
      | nil =>
        intro i c h hc hcm hok
        have hlen := drop_nil h
        have htk : ks.take i = ks := List.take_of_length_le hlen
        rw [htk] at hc hok
        refine Tot.step (fun _ => spec_lockSize.l0.eq_2 ..) (Tot.neg (by omega) ?_)
        rw [szOf]
        refine Tot.ite (fun h1 => Tot.now ?_) (fun h1 => ?_)
        · rw [if_neg (fun h2 => by have := h2.2; omega)]
        · refine Tot.bind (validMembers_tot (by omega) (by omega) (by omega)) ?_
          rintro _ rfl
          rw [w64 (x := (ms.length : Int) + (ks.length : Int)) (by omega) (by omega), inRange_eq]
          simp only [Option.bind_some, decide_eq_true_eq]
          refine Tot.ite (fun h2 => Tot.ite (fun h3 => Tot.ite (fun h4 => Tot.now ?_) (fun h4 => Tot.now ?_)) (fun h3 => Tot.now ?_)) (fun h2 => Tot.now ?_)
          · rw [if_neg (fun h5 => by have := h5.1; simp [okT] at this; omega)]
          · rw [if_pos]
            · rw [hcn, hc]
            · refine ⟨?_, by omega⟩
              rw [okT]
              simp only [Bool.and_eq_true, decide_eq_true_eq]
              exact ⟨⟨h3.1, h3.2, by omega, h2⟩, okTL_iff.2 (fun x hx => (hok x hx).1)⟩
          · rw [if_neg (fun h5 => by have := h5.1; simp [okT] at this; omega)]
          · rw [if_neg (fun h5 => by have := h5.1; simp [okT] at this; exact h2 this.1.2.2.2)]
      | cons x r ihr =>
        intro i c h hc hcm hok
        obtain ⟨g1, g2, g3⟩ := drop_cons h
        have hx := List.mem_of_getElem? g3
        have htk : ks.take (i + 1) = ks.take i ++ [x] := by rw [List.take_add_one, g3]; rfl
        have hcx : cntL (ks.take (i + 1)) = cntL (ks.take i) + cnt x := by rw [htk, cntL_append]; simp [cntL]
        have hc1 := cntL_nn (ks.take i)
        refine Tot.step (fun _ => spec_lockSize.l0.eq_2 ..) (Tot.pos (by omega) (Tot.pos (by omega) ?_))
        rw [rdLk_at g3, w64s (by omega)]
        have hsz : SizeOf.sizeOf x ≤ s := by have := size_kid (n := n) (ms := ms) hx; omega
        have ihx := ih x.f0 x.f1 x.f2 (by rw [etaL]; exact hsz) (by rw [etaL]; exact s3 x hx)
        rw [etaL] at ihx
        refine Tot.bind ihx ?_
        rintro t rfl
        have hxp := cnt_pos x
        have hxm := cnt_mem hx
        show Tot (fun k => if szOf x < 0 then _ else _) _
        by_cases hcx2 : cOK x 12
        · have e : szOf x = cnt x := if_pos hcx2
          have h12 := hcx2.2
          rw [e, w64 (x := c + cnt x) (by omega) (by omega)]
          refine Tot.neg (by omega) (ihr (i + 1) _ g2 (by omega) (by omega) ?_)
          intro y hy
          rw [htk] at hy
          rcases List.mem_append.1 hy with hy | hy
          · exact hok y hy
          · rw [List.mem_singleton] at hy
            rw [hy]; exact hcx2
        · have e : szOf x = -1 := if_neg hcx2
          rw [e]
          refine Tot.pos (by omega) (Tot.now ?_)
          rw [szOf, if_neg]
          intro h5
          refine hcx2 ⟨?_, by have := h5.2; omega⟩
          have h6 := h5.1
          rw [okT] at h6
          simp only [Bool.and_eq_true] at h6
          exact okTL_iff.1 h6.2 x hx
    exact loop ks 0 1 rfl (by simp [cntL]) (by omega) (by simp)
theorem specValidLock_tot {n : Int} {ms : List Int} {ks : List Lk} (h : smallT ⟨n, ms, ks⟩) : Tot (fun k => spec_ValidLock.f k n ms ks) (fun t => t = decide (cOK ⟨n, ms, ks⟩ 12)) := by
  unfold spec_ValidLock.f
  refine Tot.bind (lockSize_tot _ n ms ks (Nat.le_refl _) h) ?_
  rintro t rfl
  refine Tot.now ?_
  rw [decide_eq_decide, szOf]
  have := cnt_pos ⟨n, ms, ks⟩
  split
  · rename_i h; exact ⟨fun _ => h, fun _ => by omega⟩
  · rename_i h; exact ⟨fun _ => by omega, fun h2 => absurd h2 h⟩
def posB : Nat → Nat
  | 0 => 12
  | n + 1 => 12 + 2 * posB n
theorem someLock_j2 {b : List Int} (hb : ∀ x ∈ b, 0 ≤ x ∧ x < 256) {p : Int} (hp : 0 ≤ p) (hp2 : p ≤ 10000000) {ms : List Int} {ks : List Lk} (hm : ms.length ≤ 10) (hk : ks.length ≤ 10) (hs : ∀ x ∈ ks, smallT x) :
    Tot (fun k => spec_someLock.j2 k b p 0 ms ks) (fun r => smallT ⟨r.1, r.2.1, r.2.2.1⟩ ∧ r.2.1.length ≤ 10 ∧ p ≤ r.2.2.2 ∧ r.2.2.2 ≤ p + 2) := by
  refine Tot.step (fun _ => spec_someLock.j2.eq_2 ..) ?_
  rw [w64 (x := (ms.length : Int) + (ks.length : Int)) (by omega) (by omega)]
  refine Tot.ite (fun h => ?_) (fun h => ?_)
  · refine Tot.bind (pick_tot hb hp (by omega) (by omega)) ?_
    rintro ⟨v, q⟩ ⟨h1, h2, h3⟩
    simp only at h1 h2 h3
    have e : wrap64 ((([v] : List Int).length : Int) + (ks.length : Int)) = 1 + (ks.length : Int) := by
      have : (([v] : List Int).length : Int) = 1 := rfl
      rw [this]; exact w64 (by omega) (by omega)
    refine Tot.known (F := fun k (y : List Int) => (spec_reader_pick.f k b q (wrap64 ((y.length : Int) + (ks.length : Int)))).bind fun t => some (wrap64 (1 + t.1), y, ks, t.2)) ?_
    simp only [e]
    refine Tot.bind (pick_tot hb (by omega) (by omega) (by omega)) ?_
    rintro ⟨v2, q2⟩ ⟨g1, g2, g3⟩
    simp only at g1 g2 g3 ⊢
    refine Tot.now ⟨?_, by simp, by simp only; omega, by simp only; omega⟩
    rw [smallT]
    exact ⟨by simp only [List.length_cons, List.length_nil]; omega, by simp only; omega, smallTL_iff.2 hs⟩
  · refine Tot.bind (pick_tot hb hp (by omega) (by omega)) ?_
    rintro ⟨v, q⟩ ⟨h1, h2, h3⟩
    simp only at h1 h2 h3 ⊢
    refine Tot.now ⟨?_, hm, by simp only; omega, by simp only; omega⟩
    rw [smallT]
    exact ⟨by simp only; omega, by simp only; omega, smallTL_iff.2 hs⟩
theorem someLock_tot {b : List Int} (hb : ∀ x ∈ b, 0 ≤ x ∧ x < 256) : ∀ (d : Nat) (p : Int), 0 ≤ p → p + posB d ≤ 100000 → (d : Int) ≤ 1000 →
    Tot (fun k => spec_someLock.f k b p d) (fun r => smallT ⟨r.1, r.2.1, r.2.2.1⟩ ∧ r.2.1.length ≤ 10 ∧ p ≤ r.2.2.2 ∧ r.2.2.2 ≤ p + posB d) := by
  intro d
  induction d with
  | zero =>
    intro p hp hp2 _
    rw [posB] at hp2
    refine Tot.step (fun _ => spec_someLock.f.eq_2 ..) ?_
    have loop : ∀ (c i : Nat) (ms : List Int) (q : Int), i + c = 8 → ms.length ≤ 5 → p + i ≤ q → q ≤ p + i → Tot (fun k => spec_someLock.l0 k ((0 : Nat) : Int) i b q 0 ms) (fun r => smallT ⟨r.1, r.2.1, r.2.2.1⟩ ∧ r.2.1.length ≤ 10 ∧ p ≤ r.2.2.2 ∧ r.2.2.2 ≤ p + 11) := by
      intro c
      induction c with
      | zero =>
        intro i ms q hi hm hq hq2
        refine Tot.step (fun _ => spec_someLock.l0.eq_2 ..) (Tot.neg (by omega) ?_)
        refine Tot.bind (one_tot hb (by omega) (by omega) (by simp) (by simp)) ?_
        rintro ⟨v, q2⟩ ⟨g1, g2⟩
        simp only at g1 ⊢
        refine Tot.step (fun _ => spec_someLock.l1.eq_2 ..) ?_
        have J := someLock_j2 hb (p := q2) (by omega) (by omega) (ms := ms) (ks := []) (by omega) (by simp) (by simp)
        have J2 := J.mono (Q := fun r => smallT ⟨r.1, r.2.1, r.2.2.1⟩ ∧ r.2.1.length ≤ 10 ∧ p ≤ r.2.2.2 ∧ r.2.2.2 ≤ p + 11) (fun r hr => ⟨hr.1, hr.2.1, by omega, by omega⟩)
        exact Tot.ite (fun _ => Tot.neg (by omega) J2) (fun _ => J2)
      | succ c ihc =>
        intro i ms q hi hm hq hq2
        refine Tot.step (fun _ => spec_someLock.l0.eq_2 ..) (Tot.pos (by omega) ?_)
        rw [w64s (by omega)]
        refine Tot.bind (pick_tot hb (by omega) (by omega) (by omega)) ?_
        rintro ⟨v, q2⟩ ⟨g1, g2, g3⟩
        simp only at g1 g2 g3 ⊢
        refine Tot.ite (fun _ => Tot.ite (fun _ => Tot.pos (by omega) (ihc (i + 1) _ q2 (by omega) (by simp; omega) (by omega) (by omega))) (fun _ => ihc (i + 1) _ q2 (by omega) hm (by omega) (by omega))) (fun _ => ihc (i + 1) _ q2 (by omega) hm (by omega) (by omega))
    refine (loop 8 0 [] p rfl (by simp) (by omega) (by omega)).mono ?_
    rintro r ⟨h1, h2, h3, h4⟩
    refine ⟨h1, h2, h3, ?_⟩
    rw [posB]; omega
  | succ d ih =>
    intro p hp hp2 hd
    rw [posB] at hp2
    refine Tot.step (fun _ => spec_someLock.f.eq_2 ..) ?_
    have kids : ∀ (c : Nat) (ms : List Int) (ks : List Lk) (q : Int), c ≤ 2 → ks.length + c ≤ 2 → ms.length ≤ 5 → (∀ x ∈ ks, smallT x) → p ≤ q → q + c * posB d ≤ p + 9 + 2 * posB d →
        Tot (fun k => spec_someLock.l1 k ((d + 1 : Nat) : Int) c b q 0 ms ks) (fun r => smallT ⟨r.1, r.2.1, r.2.2.1⟩ ∧ r.2.1.length ≤ 10 ∧ p ≤ r.2.2.2 ∧ r.2.2.2 ≤ p + 11 + 2 * posB d) := by
      intro c
      induction c with
      | zero =>
        intro ms ks q hc hkc hm hks hq hq2
        refine Tot.step (fun _ => spec_someLock.l1.eq_2 ..) (Tot.neg (by omega) ?_)
        refine (someLock_j2 hb (p := q) (by omega) (by omega) (ms := ms) (ks := ks) (by omega) (by omega) hks).mono ?_
        rintro r ⟨h1, h2, h3, h4⟩
        exact ⟨h1, h2, by omega, by omega⟩
      | succ c ihc =>
        intro ms ks q hc hkc hm hks hq hq2
        have hmul : ((c + 1 : Nat) : Int) * posB d = c * posB d + posB d := by
          rw [Int.natCast_add, Int.add_mul]; simp
        have hnn : 0 ≤ (c : Int) * posB d := Int.mul_nonneg (by omega) (by omega)
        rw [hmul] at hq2
        refine Tot.step (fun _ => spec_someLock.l1.eq_2 ..) (Tot.pos (by omega) (Tot.pos (by omega) ?_))
        have e1 : wrap64 (((d + 1 : Nat) : Int) - 1) = (d : Int) := by rw [w64 (by omega) (by omega)]; omega
        have e2 : wrap64 (((c + 1 : Nat) : Int) - 1) = (c : Int) := by rw [w64 (by omega) (by omega)]; omega
        rw [e1, e2]
        refine Tot.bind (ih q (by omega) (by omega) (by omega)) ?_
        rintro ⟨n, ms2, ks2, q2⟩ ⟨h1, h2, h3, h4⟩
        simp only at h1 h2 h3 h4 ⊢
        refine Tot.pos (by omega) (ihc ms _ q2 (by omega) (by simp; omega) hm ?_ (by omega) (by omega))
        intro x hx
        rcases List.mem_append.1 hx with hx | hx
        · exact hks x hx
        · rw [List.mem_singleton] at hx
          rw [hx]; exact h1
    have loop : ∀ (c i : Nat) (ms : List Int) (q : Int), i + c = 8 → ms.length ≤ 5 → p + i ≤ q → q ≤ p + i → Tot (fun k => spec_someLock.l0 k ((d + 1 : Nat) : Int) i b q 0 ms) (fun r => smallT ⟨r.1, r.2.1, r.2.2.1⟩ ∧ r.2.1.length ≤ 10 ∧ p ≤ r.2.2.2 ∧ r.2.2.2 ≤ p + 11 + 2 * posB d) := by
      intro c
      induction c with
      | zero =>
        intro i ms q hi hm hq hq2
        refine Tot.step (fun _ => spec_someLock.l0.eq_2 ..) (Tot.neg (by omega) ?_)
        refine Tot.bind (one_tot hb (by omega) (by omega) (by simp) (by simp)) ?_
        rintro ⟨v, q2⟩ ⟨g1, g2⟩
        simp only [List.mem_cons, List.not_mem_nil, or_false] at g1 g2 ⊢
        rcases g2 with rfl | rfl | rfl
        · exact kids 0 ms [] q2 (by omega) (by simp) hm (by simp) (by omega) (by simp; omega)
        · exact kids 1 ms [] q2 (by omega) (by simp) hm (by simp) (by omega) (by simp; omega)
        · exact kids 2 ms [] q2 (by omega) (by simp) hm (by simp) (by omega) (by simp; omega)
      | succ c ihc =>
        intro i ms q hi hm hq hq2
        refine Tot.step (fun _ => spec_someLock.l0.eq_2 ..) (Tot.pos (by omega) ?_)
        rw [w64s (by omega)]
        refine Tot.bind (pick_tot hb (by omega) (by omega) (by omega)) ?_
        rintro ⟨v, q2⟩ ⟨g1, g2, g3⟩
        simp only at g1 g2 g3 ⊢
        refine Tot.ite (fun _ => Tot.ite (fun _ => Tot.pos (by omega) (ihc (i + 1) _ q2 (by omega) (by simp; omega) (by omega) (by omega))) (fun _ => ihc (i + 1) _ q2 (by omega) hm (by omega) (by omega))) (fun _ => ihc (i + 1) _ q2 (by omega) hm (by omega) (by omega))
    refine (loop 8 0 [] p rfl (by simp) (by omega) (by omega)).mono ?_
    rintro r ⟨h1, h2, h3, h4⟩
    refine ⟨h1, h2, h3, ?_⟩
    rw [posB]; omega
theorem anyLock_tot {b : List Int} (hb : ∀ x ∈ b, 0 ≤ x ∧ x < 256) {p : Int} (hp : 0 ≤ p) (hp2 : p ≤ 1000) :
    Tot (fun k => spec_anyLock.f k b p) (fun r => smallT ⟨r.1, r.2.1, r.2.2.1⟩ ∧ p ≤ r.2.2.2 ∧ r.2.2.2 ≤ p + 200) := by
  unfold spec_anyLock.f
  refine Tot.bind (one_tot hb hp (by omega) (by simp) (by simp)) ?_
  rintro ⟨d, q⟩ ⟨h1, h2⟩
  simp only [List.mem_cons, List.not_mem_nil, or_false] at h1 h2 ⊢
  obtain ⟨m, rfl⟩ := Int.eq_ofNat_of_zero_le (a := d) (by omega)
  have hB : posB m ≤ 84 := by
    have : m = 0 ∨ m = 1 ∨ m = 2 := by omega
    rcases this with rfl | rfl | rfl <;> decide
  refine Tot.bind (someLock_tot hb m q (by omega) (by omega) (by omega)) ?_
  rintro ⟨n, ms, ks, q2⟩ ⟨g1, g2, g3, g4⟩
  simp only at g1 g2 g3 g4 ⊢
  rw [smallT] at g1
  refine Tot.bind (pick_tot hb (by omega) (by omega) (by omega)) ?_
  rintro ⟨v, q3⟩ ⟨f1, f2, f3⟩
  simp only at f1 f2 f3 ⊢
  refine Tot.ite (fun _ => ?_) (fun _ => Tot.ite (fun _ => ?_) (fun _ => Tot.now ⟨by rw [smallT]; exact g1, by simp only; omega, by simp only; omega⟩))
  · refine Tot.bind (one_tot hb (by omega) (by omega) (by simp) (by simp)) ?_
    rintro ⟨v2, q4⟩ ⟨e1, e2⟩
    simp only at e1 ⊢
    exact Tot.now ⟨by rw [smallT]; exact g1, by simp only; omega, by simp only; omega⟩
  · refine Tot.bind (one_tot hb (by omega) (by omega) (by simp) (by simp)) ?_
    rintro ⟨v2, q4⟩ ⟨e1, e2⟩
    simp only at e1 ⊢
    refine Tot.pos (by omega) (Tot.now ⟨?_, by simp only; omega, by simp only; omega⟩)
    rw [smallT]
    exact ⟨by simp; omega, g1.2⟩
theorem law_l0 {n : Int} {ms : List Int} {ks : List Lk} (hs : smallT ⟨n, ms, ks⟩) (h : cOK ⟨n, ms, ks⟩ 12) : ∀ (d i : Nat), i + d = ks.length → Tot (fun k => laws_FnValidLock.l0 k i n ms ks) (fun t => t = true) := by
  have hok := h.1
  have hcn := h.2
  have hss := hs
  rw [smallT] at hss
  rw [okT] at hok
  rw [cnt] at hcn
  simp only [Bool.and_eq_true, decide_eq_true_eq] at hok
  intro d
  induction d with
  | zero =>
    intro i hi
    refine Tot.step (fun _ => laws_FnValidLock.l0.eq_2 ..) (Tot.neg (by omega) ?_)
    refine Tot.bind (implValidLock_tot (by rw [smallT]; exact hss)) ?_
    rintro _ rfl
    refine Tot.now ?_
    rw [decide_eq_true_iff]
    refine ⟨?_, by rw [cnt]; exact hcn⟩
    rw [okT]
    simp only [Bool.and_eq_true, decide_eq_true_eq]
    exact ⟨⟨by omega, by omega, by omega, hok.1.2.2.2⟩, hok.2⟩
  | succ d ih =>
    intro i hi
    have hg : ks[i]? = some ks[i] := List.getElem?_eq_getElem (by omega)
    have hm := List.mem_of_getElem? hg
    refine Tot.step (fun _ => laws_FnValidLock.l0.eq_2 ..) (Tot.pos (by omega) (Tot.pos (by omega) ?_))
    rw [rdLk_at hg, w64s (by omega)]
    have hv := implValidLock_tot (n := ks[i].f0) (ms := ks[i].f1) (ks := ks[i].f2) (by rw [etaL]; exact smallTL_iff.1 hss.2.2 _ hm)
    rw [etaL] at hv
    refine Tot.bind hv ?_
    rintro _ rfl
    have := cnt_mem hm
    exact Tot.pos (by rw [decide_eq_true_iff]; exact ⟨okTL_iff.1 hok.2 _ hm, by show cnt ks[i] ≤ 12; omega⟩) (ih (i + 1) (by omega))
theorem FnValidLock : laws_FnValidLock.Pure := by
  intro l hl hl2 hw
  refine Tot.ends (g := fun k => laws_FnValidLock.f k l) ?_
  unfold laws_FnValidLock.f spec_DrawValidLock.f
  refine Tot.ite (fun _ => Tot.now rfl) (fun _ => ?_)
  obtain ⟨b, hb, hb2, hb3⟩ := newReader_tot hw
  rw [hb]
  simp only [Option.bind_some]
  refine Tot.bind (P := fun r => smallT ⟨r.1, r.2.1, r.2.2⟩) (Tot.bind (anyLock_tot hb3 (Int.le_refl _) (by omega)) ?_) ?_
  · rintro ⟨n, ms, ks, q⟩ ⟨h1, _⟩
    exact Tot.now h1
  rintro ⟨n, ms, ks⟩ hs
  simp only at hs ⊢
  refine Tot.bind (implValidLock_tot hs) ?_
  rintro _ rfl
  refine Tot.bind (specValidLock_tot hs) ?_
  rintro _ rfl
  refine Tot.neg (by simp) (Tot.step (fun _ => laws_FnValidLock.j0.eq_2 ..) ?_)
  by_cases hc : cOK ⟨n, ms, ks⟩ 12
  · refine Tot.neg (by simp [hc]) ?_
    exact law_l0 hs hc _ 0 (Nat.zero_add _)
  · refine Tot.pos (by simp [hc]) ?_
    refine Tot.bind (specValidLock_tot hs) ?_
    rintro _ rfl
    exact Tot.now (by simp)
end Go.Proofs.Ytlkcblhagcgboaa.Pure
