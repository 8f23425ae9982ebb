/- FnExactValidLock: for all arguments ValidLock of the program and of the reference agree, and the arguments are left as they were. No condition beyond the statement's own. -/
import Derived.Test.YtnijdifoejiafaaQFnExactValidLockx5
import Derived.Test.YtnijdifoejiafaaCore
namespace Go.Proofs.Ytnijdifoejiafaa.Pure
open Go.RowKit Go.Proofs.Ytnijdifoejiafaa.PFnExactValidLock Go.Proofs.YtnijdifoejiafaaW.PrintWords
set_option linter.unusedSimpArgs false
set_option linter.unusedVariables false

theorem getD_set_true {s : List Bool} {a b : Nat} (ha : a < s.length) : (s.set a true).getD b false = false ↔ b ≠ a ∧ s.getD b false = false := by
  simp only [List.getD_eq_getElem?_getD, List.getElem?_set]
  by_cases h : a = b
  · subst h; simp [ha]
  · rw [if_neg h]
    constructor
    · intro h2; exact ⟨fun e => h e.symm, h2⟩
    · intro h2; exact h2.2
theorem differentBelow_l0 {xs : List Int} {n : Int} (hl : xs.length ≤ 1000000000000) : ∀ (r : List Int) (i : Nat) (s : List Bool), xs.drop i = r → (s.length : Int) = n →
    Tot (fun k => impl_differentBelow.l0 k n s xs xs.length i) (fun t => t = decide ((∀ x ∈ r, (0 ≤ x ∧ x < n) ∧ s.getD x.toNat false = false) ∧ r.Nodup)) := by
  intro r
  induction r with
  | nil =>
    intro i s h hs
    have := drop_nil h
    exact Tot.step (fun _ => impl_differentBelow.l0.eq_2 ..) (Tot.neg (by omega) (Tot.now (by simp)))
  | cons x r ih =>
    intro i s h hs
    obtain ⟨h1, h2, h3⟩ := drop_cons h
    refine Tot.step (fun _ => impl_differentBelow.l0.eq_2 ..) ?_
    rw [rd_at h3, w64s (by omega)]
    refine Tot.pos (by omega) (Tot.pos (by omega) (Tot.pos (by omega) (Tot.ite (fun h4 => Tot.now ?_) (fun h4 => Tot.ite (fun h5 => Tot.now ?_) (fun h5 => Tot.pos (by omega) (Tot.pos (by omega) (Tot.ite (fun h6 => Tot.now ?_) (fun h6 => ?_))))))))
    · symm
      rw [decide_eq_false_iff_not]
      intro h7
      have := (h7.1 x (by simp)).1
      omega
    · symm
      rw [decide_eq_false_iff_not]
      intro h7
      have := (h7.1 x (by simp)).1
      omega
    · symm
      rw [decide_eq_false_iff_not]
      intro h7
      have h8 := (h7.1 x (by simp)).2
      rw [rdOf, h8] at h6
      cases h6
    · have h6' : s.getD x.toNat false = false := by
        rw [rdOf] at h6
        simpa using h6
      have hx : x.toNat < s.length := by omega
      refine (ih (i + 1) (s.set x.toNat true) h2 (by simp; omega)).mono ?_
      rintro t rfl
      rw [decide_eq_decide]
      constructor
      · rintro ⟨h9, h10⟩
        refine ⟨fun y hy => ?_, List.nodup_cons.2 ⟨fun hx2 => ?_, h10⟩⟩
        · rcases List.mem_cons.1 hy with rfl | hy
          · exact ⟨⟨by omega, by omega⟩, h6'⟩
          · exact ⟨(h9 y hy).1, ((getD_set_true hx).1 (h9 y hy).2).2⟩
        · exact ((getD_set_true hx).1 (h9 x hx2).2).1 rfl
      · rintro ⟨h9, h10⟩
        obtain ⟨h11, h12⟩ := List.nodup_cons.1 h10
        refine ⟨fun y hy => ⟨(h9 y (List.mem_cons_of_mem _ hy)).1, (getD_set_true hx).2 ⟨fun h13 => ?_, (h9 y (List.mem_cons_of_mem _ hy)).2⟩⟩, h12⟩
        have h14 := (h9 y (List.mem_cons_of_mem _ hy)).1
        have h15 : y = x := by omega
        exact h11 (h15 ▸ hy)
theorem differentBelow_tot {xs : List Int} {n : Int} (hl : xs.length ≤ 1000000000000) (hn : 0 ≤ n) (hn2 : n ≤ 1000000000000) : Tot (fun k => impl_differentBelow.f k xs n) (fun t => t = decide (DB xs n)) := by
  unfold impl_differentBelow.f
  refine Tot.ite (fun h => Tot.now ?_) (fun h => Tot.pos hn (Tot.pos (by omega) ?_))
  · symm
    rw [decide_eq_false_iff_not]
    intro h2
    have := h2.le hn
    omega
  · refine (differentBelow_l0 hl xs 0 _ rfl (by simp; omega)).mono ?_
    rintro t rfl
    rw [decide_eq_decide]
    have : ∀ j, (List.replicate n.toNat false).getD j false = false := by
      intro j
      simp only [List.getD_eq_getElem?_getD, List.getElem?_replicate]
      split <;> rfl
    simp only [this, and_true]
    exact Iff.rfl
theorem inRange_eq (a b c : Int) : spec_inRange.f a b c = some (decide (b ≤ a ∧ a ≤ c)) := by
  unfold spec_inRange.f
  by_cases h : b ≤ a
  · rw [if_pos h]; simp [h]
  · rw [if_neg h]; simp [h]
theorem placeIn_l0 {xs : List Int} {v : Int} (hl : xs.length ≤ 1000000000000) : ∀ (r : List Int) (i : Nat), xs.drop i = r →
    Tot (fun k => spec_placeIn.l0 k xs v i) (fun t => t = posFrom r v i) := by
  intro r
  induction r with
  | nil =>
    intro i h
    have := drop_nil h
    exact Tot.step (fun _ => spec_placeIn.l0.eq_2 ..) (Tot.neg (by omega) (Tot.now rfl))
  | cons x r ih =>
    intro i h
    obtain ⟨h1, h2, h3⟩ := drop_cons h
    refine Tot.step (fun _ => spec_placeIn.l0.eq_2 ..) ?_
    rw [rd_at h3, w64s (by omega), posFrom]
    refine Tot.pos (by omega) (Tot.pos (by omega) (Tot.ite (fun h4 => ?_) (fun h4 => ?_)))
    · rw [if_pos h4]; exact Tot.now rfl
    · rw [if_neg h4]; exact ih (i + 1) h2
theorem placeIn_tot {xs : List Int} {v : Int} (hl : xs.length ≤ 1000000000000) : Tot (fun k => spec_placeIn.f k xs v) (fun t => t = posFrom xs v 0) := by
  unfold spec_placeIn.f
  exact placeIn_l0 hl xs 0 rfl
theorem validMembers_l0 {xs : List Int} {n : Int} (hl : xs.length ≤ 1000000000000) (hn : 0 ≤ n) (hn2 : n ≤ 1000000000000) : ∀ (r : List Int) (i : Nat), xs.drop i = r →
    Tot (fun k => spec_validMembers.l0 k xs n i) (fun t => t = decide ((∀ x ∈ r, (0 ≤ x ∧ x < n) ∧ x ∉ xs.take i) ∧ r.Nodup)) := by
  intro r
  induction r with
  | nil =>
    intro i h
    have := drop_nil h
    exact Tot.step (fun _ => spec_validMembers.l0.eq_2 ..) (Tot.neg (by omega) (Tot.now (by simp)))
  | cons x r ih =>
    intro i h
    obtain ⟨h1, h2, h3⟩ := drop_cons h
    refine Tot.step (fun _ => spec_validMembers.l0.eq_2 ..) ?_
    rw [rd_at h3, w64s (by omega), w64 (x := n - 1) (by omega) (by omega), inRange_eq]
    simp only [Option.bind_some, decide_eq_true_eq]
    refine Tot.pos (by omega) (Tot.pos (by omega) (Tot.ite (fun h4 => Tot.pos (by omega) ?_) (fun h4 => Tot.now ?_)))
    · rw [Int.toNat_natCast]
      refine Tot.bind (placeIn_tot (by simp; omega)) ?_
      rintro t rfl
      refine Tot.ite (fun h5 => Tot.now ?_) (fun h5 => ?_)
      · have h6 := (posFrom_ge (l := xs.take i) (v := x) (Int.le_refl 0)).1 h5
        symm
        rw [decide_eq_false_iff_not]
        intro h7
        exact (h7.1 x (by simp)).2 h6
      · have h6 : x ∉ xs.take i := fun h7 => h5 ((posFrom_ge (l := xs.take i) (v := x) (Int.le_refl 0)).2 h7)
        refine (ih (i + 1) h2).mono ?_
        rintro t rfl
        have h8 : xs.take (i + 1) = xs.take i ++ [x] := by rw [List.take_add_one, h3]; rfl
        rw [h8, decide_eq_decide]
        constructor
        · rintro ⟨h9, h10⟩
          refine ⟨fun y hy => ?_, List.nodup_cons.2 ⟨fun hx => ?_, h10⟩⟩
          · rcases List.mem_cons.1 hy with rfl | hy
            · exact ⟨⟨h4.1, by omega⟩, h6⟩
            · exact ⟨(h9 y hy).1, fun h11 => (h9 y hy).2 (List.mem_append_left _ h11)⟩
          · exact (h9 x hx).2 (by simp)
        · rintro ⟨h9, h10⟩
          obtain ⟨h11, h12⟩ := List.nodup_cons.1 h10
          refine ⟨fun y hy => ⟨(h9 y (List.mem_cons_of_mem _ hy)).1, fun h13 => ?_⟩, h12⟩
          rcases List.mem_append.1 h13 with h13 | h13
          · exact (h9 y (List.mem_cons_of_mem _ hy)).2 h13
          · rw [List.mem_singleton] at h13
            exact h11 (h13 ▸ hy)
    · symm
      rw [decide_eq_false_iff_not]
      intro h7
      have := (h7.1 x (by simp)).1
      omega
theorem validMembers_tot {xs : List Int} {n : Int} (hl : xs.length ≤ 1000000000000) (hn : 0 ≤ n) (hn2 : n ≤ 1000000000000) : Tot (fun k => spec_validMembers.f k xs n) (fun t => t = decide (DB xs n)) := by
  unfold spec_validMembers.f
  refine (validMembers_l0 hl hn hn2 xs 0 rfl).mono ?_
  rintro t rfl
  rw [decide_eq_decide]
  simp [DB]
/-! locks -/
abbrev Lk := S49
mutual
def cnt : Lk → Int
  | ⟨_, _, ks⟩ => 1 + cntL ks
def cntL : List Lk → Int
  | [] => 0
  | x :: r => cnt x + cntL r
end
mutual
def okT : Lk → Bool
  | ⟨n, ms, ks⟩ => decide (1 ≤ n ∧ n ≤ (ms.length : Int) + (ks.length : Int) ∧ (ms.length : Int) + (ks.length : Int) ≤ 8 ∧ DB ms 8) && okTL ks
def okTL : List Lk → Bool
  | [] => true
  | x :: r => okT x && okTL r
end
mutual
def smallT : Lk → Prop
  | ⟨_, ms, ks⟩ => ms.length ≤ 10000000 ∧ ks.length ≤ 10000000 ∧ smallTL ks
def smallTL : List Lk → Prop
  | [] => True
  | x :: r => smallT x ∧ smallTL r
end
theorem smallTL_iff : ∀ {l : List Lk}, smallTL l ↔ ∀ x ∈ l, smallT x := by
  intro l
  induction l with
  | nil => simp [smallTL]
  | cons x r ih => simp [smallTL, ih]
theorem okTL_iff : ∀ {l : List Lk}, okTL l = true ↔ ∀ x ∈ l, okT x = true := by
  intro l
  induction l with
  | nil => simp [okTL]
  | cons x r ih => simp [okTL, ih]
mutual
theorem cnt_pos : ∀ x : Lk, 1 ≤ cnt x
  | ⟨_, _, ks⟩ => by
    have := cntL_nn ks
    rw [cnt]; omega
theorem cntL_nn : ∀ l : List Lk, 0 ≤ cntL l
  | [] => by simp [cntL]
  | x :: r => by
    have h1 := cnt_pos x
    have h2 := cntL_nn r
    rw [cntL]; omega
end
theorem cntL_append : ∀ (a b : List Lk), cntL (a ++ b) = cntL a + cntL b := by
  intro a b
  induction a with
  | nil => simp [cntL]
  | cons x a ih => simp only [List.cons_append, cntL, ih]; omega
theorem cnt_mem : ∀ {l : List Lk} {x : Lk}, x ∈ l → cnt x ≤ cntL l := by
  intro l
  induction l with
  | nil => intro x h; cases h
  | cons y r ih =>
    intro x h
    have h1 := cnt_pos y
    have h2 := cntL_nn r
    rw [cntL]
    rcases List.mem_cons.1 h with rfl | h
    · omega
    · have := ih h; omega
theorem rdLk_at {l : List Lk} {i : Nat} {r : Lk} (h : l[i]? = some r) : rd_T49 l (i : Int) = r := by
  simp [rd_T49, List.getD_eq_getElem?_getD, h]
theorem size_kid {n : Int} {ms : List Int} {ks : List Lk} {x : Lk} (h : x ∈ ks) : SizeOf.sizeOf x < SizeOf.sizeOf (⟨n, ms, ks⟩ : Lk) := by
  have h1 := List.sizeOf_lt_of_mem h
  simp only [S49.mk.sizeOf_spec]
  omega
theorem etaL (x : Lk) : (⟨x.f0, x.f1, x.f2⟩ : Lk) = x := by cases x; rfl
def cOK (l : Lk) (most : Int) : Prop := okT l = true ∧ cnt l ≤ most
instance (l : Lk) (m : Int) : Decidable (cOK l m) := inferInstanceAs (Decidable (okT l = true ∧ cnt l ≤ m))
/-- What lockCount tells. -/
def CP (l : Lk) (most : Int) (t : Int) : Prop := (cOK l most ∧ t = cnt l) ∨ (¬ cOK l most ∧ 12 < t ∧ t ≤ 13 + 12 * (if most < 0 then 0 else most))
theorem lockCount_tot : ∀ (s : Nat) (n : Int) (ms : List Int) (ks : List Lk) (most : Int), SizeOf.sizeOf (⟨n, ms, ks⟩ : Lk) ≤ s → smallT ⟨n, ms, ks⟩ → most ≤ 12 → -100 ≤ most →
    Tot (fun k => impl_lockCount.f k n ms ks most) (CP ⟨n, ms, ks⟩ most) := by
  intro s
  induction s with
  | zero =>
    intro n ms ks most hs _ _ _
    simp only [S49.mk.sizeOf_spec] at hs
    omega
  | succ s ih =>
    intro n ms ks most hs hsm hm hm2
    rw [smallT] at hsm
    obtain ⟨s1, s2, s3⟩ := hsm
    rw [smallTL_iff] at s3
    refine Tot.step (fun _ => impl_lockCount.f.eq_2 ..) ?_
    rw [w64 (x := (ms.length : Int) + (ks.length : Int)) (by omega) (by omega)]
    have bad : ¬ cOK ⟨n, ms, ks⟩ most → Tot (fun k => impl_lockCount.j0 k most true n ms ks) (CP ⟨n, ms, ks⟩ most) := by
      intro hc
      refine Tot.step (fun _ => impl_lockCount.j0.eq_2 ..) (Tot.pos rfl (Tot.now (.inr ⟨hc, by omega, ?_⟩)))
      split <;> omega
    have pos := cnt_pos ⟨n, ms, ks⟩
    refine Tot.ite (fun h => bad (fun hc => ?_)) (fun h1 => Tot.ite (fun h => bad (fun hc => ?_)) (fun h2 => Tot.ite (fun h => bad (fun hc => ?_)) (fun h3 => Tot.ite (fun h => bad (fun hc => ?_)) (fun h4 => ?_))))
    · have := hc.2; omega
    · have := hc.1; simp [okT] at this; omega
    · have := hc.1; simp [okT] at this; omega
    · have := hc.1; simp [okT] at this; omega
    · refine Tot.bind (differentBelow_tot (by omega) (by omega) (by omega)) ?_
      rintro _ rfl
      refine Tot.step (fun _ => impl_lockCount.j0.eq_2 ..) ?_
      by_cases hd : DB ms 8
      · refine Tot.neg (by simp [hd]) ?_
        have hloc : okT ⟨n, ms, ks⟩ = okTL ks := by
          rw [okT]
          have : decide (1 ≤ n ∧ n ≤ (ms.length : Int) + (ks.length : Int) ∧ (ms.length : Int) + (ks.length : Int) ≤ 8 ∧ DB ms 8) = true := by
            rw [decide_eq_true_iff]
            exact ⟨by omega, by omega, by omega, hd⟩
          rw [this, Bool.true_and]
        have hcn : cnt ⟨n, ms, ks⟩ = 1 + cntL ks := by rw [cnt]
        -- the loop
        have loop : ∀ (r : List Lk) (i : Nat) (c : Int), ks.drop i = r → c = 1 + cntL (ks.take i) → c ≤ most → (∀ x ∈ ks.take i, okT x = true) →
            Tot (fun k => impl_lockCount.l0 k most c ks ks.length i) (CP ⟨n, ms, ks⟩ most) := by
          intro r
          induction r with
          | nil =>
            intro i c h hc hcm hok
            have hlen := drop_nil h
            have htk : ks.take i = ks := List.take_of_length_le hlen
            rw [htk] at hc hok
            refine Tot.step (fun _ => impl_lockCount.l0.eq_2 ..) (Tot.neg (by omega) (Tot.now (.inl ⟨⟨?_, ?_⟩, ?_⟩)))
            · rw [hloc]; exact okTL_iff.2 hok
            · rw [hcn]; omega
            · rw [hcn]; exact hc
          | cons x r ihr =>
            intro i c h hc hcm hok
            obtain ⟨g1, g2, g3⟩ := drop_cons h
            have hx := List.mem_of_getElem? g3
            have hc1 := cntL_nn (ks.take i)
            have htk : ks.take (i + 1) = ks.take i ++ [x] := by rw [List.take_add_one, g3]; rfl
            have hcx : cntL (ks.take (i + 1)) = cntL (ks.take i) + cnt x := by rw [htk, cntL_append]; simp [cntL]
            have hcall : cntL (ks.take (i + 1)) ≤ cntL ks := by
              conv => rhs; rw [← List.take_append_drop (i + 1) ks]
              rw [cntL_append]
              have := cntL_nn (ks.drop (i + 1))
              omega
            refine Tot.step (fun _ => impl_lockCount.l0.eq_2 ..) (Tot.pos (by omega) (Tot.pos (by omega) (Tot.pos (by omega) ?_)))
            rw [rdLk_at g3, w64s (by omega), w64 (x := most - c) (by omega) (by omega)]
            have hsz : SizeOf.sizeOf x ≤ s := by have := size_kid (n := n) (ms := ms) hx; omega
            have ihx := ih x.f0 x.f1 x.f2 (most - c) (by rw [etaL]; exact hsz) (by rw [etaL]; exact s3 x hx) (by omega) (by omega)
            rw [etaL] at ihx
            refine Tot.bind ihx ?_
            rintro t (⟨⟨t1, t2⟩, t3⟩ | ⟨t1, t2, t3⟩)
            · have hxp := cnt_pos x
              subst t3
              rw [w64 (x := c + cnt x) (by omega) (by omega)]
              refine Tot.neg (by omega) (ihr (i + 1) _ g2 (by omega) (by omega) ?_)
              intro y hy
              rw [htk] at hy
              rcases List.mem_append.1 hy with hy | hy
              · exact hok y hy
              · rw [List.mem_singleton] at hy
                rw [hy]; exact t1
            · rw [if_neg (by omega)] at t3
              rw [w64 (x := c + t) (by omega) (by omega)]
              refine Tot.pos (by omega) (Tot.now (.inr ⟨?_, by omega, ?_⟩))
              · rintro ⟨u1, u2⟩
                rw [hloc] at u1
                rw [hcn] at u2
                refine t1 ⟨okTL_iff.1 u1 x hx, ?_⟩
                show cnt x ≤ most - c
                omega
              · rw [if_neg (by omega)]; omega
        exact loop ks 0 1 rfl (by simp [cntL]) (by omega) (by simp)
      · refine Tot.pos (by simp [hd]) (Tot.now (.inr ⟨fun hc => ?_, by omega, ?_⟩))
        · have := hc.1; simp [okT] at this; exact hd this.1.2.2.2
        · split <;> omega
theorem implValidLock_tot {n : Int} {ms : List Int} {ks : List Lk} (h : smallT ⟨n, ms, ks⟩) : Tot (fun k => impl_ValidLock.f k n ms ks) (fun t => t = decide (cOK ⟨n, ms, ks⟩ 12)) := by
  unfold impl_ValidLock.f
  refine Tot.bind (lockCount_tot _ n ms ks 12 (Nat.le_refl _) h (by omega) (by omega)) ?_
  rintro t (⟨t1, t2⟩ | ⟨t1, t2, t3⟩)
  · refine Tot.now ?_
    rw [decide_eq_decide]
    exact ⟨fun _ => t1, fun _ => by rw [t2]; exact t1.2⟩
  · refine Tot.now ?_
    rw [decide_eq_decide]
    exact ⟨fun h => by omega, fun h => absurd h t1⟩
def szOf (l : Lk) : Int := if cOK l 12 then cnt l else -1
theorem lockSize_tot : ∀ (s : Nat) (n : Int) (ms : List Int) (ks : List Lk), SizeOf.sizeOf (⟨n, ms, ks⟩ : Lk) ≤ s → smallT ⟨n, ms, ks⟩ →
    Tot (fun k => spec_lockSize.f k n ms ks) (fun t => t = szOf ⟨n, ms, ks⟩) := by
  intro s
  induction s with
  | zero =>
    intro n ms ks hs _
    simp only [S49.mk.sizeOf_spec] at hs
    omega
  | succ s ih =>
    intro n ms ks hs hsm
    rw [smallT] at hsm
    obtain ⟨s1, s2, s3⟩ := hsm
    rw [smallTL_iff] at s3
    have hcn : cnt ⟨n, ms, ks⟩ = 1 + cntL ks := by rw [cnt]
    refine Tot.step (fun _ => spec_lockSize.f.eq_2 ..) ?_
    have loop : ∀ (r : List Lk) (i : Nat) (c : Int), ks.drop i = r → c = 1 + cntL (ks.take i) → c ≤ 1 + 12 * i → (∀ x ∈ ks.take i, cOK x 12) →
        Tot (fun k => spec_lockSize.l0 k c i n ms ks) (fun t => t = szOf ⟨n, ms, ks⟩) := by
      intro r
      induction r with
      | nil =>
        intro i c h hc hcm hok
        have hlen := drop_nil h
        have htk : ks.take i = ks := List.take_of_length_le hlen
        rw [htk] at hc hok
        refine Tot.step (fun _ => spec_lockSize.l0.eq_2 ..) (Tot.neg (by omega) ?_)
        rw [szOf]
        refine Tot.ite (fun h1 => Tot.now ?_) (fun h1 => ?_)
        · rw [if_neg (fun h2 => by have := h2.2; omega)]
        · refine Tot.bind (validMembers_tot (by omega) (by omega) (by omega)) ?_
          rintro _ rfl
          rw [w64 (x := (ms.length : Int) + (ks.length : Int)) (by omega) (by omega), inRange_eq]
          simp only [Option.bind_some, decide_eq_true_eq]
          refine Tot.ite (fun h2 => Tot.ite (fun h3 => Tot.ite (fun h4 => Tot.now ?_) (fun h4 => Tot.now ?_)) (fun h3 => Tot.now ?_)) (fun h2 => Tot.now ?_)
          · rw [if_neg (fun h5 => by have := h5.1; simp [okT] at this; omega)]
          · rw [if_pos]
            · rw [hcn, hc]
            · refine ⟨?_, by omega⟩
              rw [okT]
              simp only [Bool.and_eq_true, decide_eq_true_eq]
              exact ⟨⟨h3.1, h3.2, by omega, h2⟩, okTL_iff.2 (fun x hx => (hok x hx).1)⟩
          · rw [if_neg (fun h5 => by have := h5.1; simp [okT] at this; omega)]
          · rw [if_neg (fun h5 => by have := h5.1; simp [okT] at this; exact h2 this.1.2.2.2)]
      | cons x r ihr =>
        intro i c h hc hcm hok
        obtain ⟨g1, g2, g3⟩ := drop_cons h
        have hx := List.mem_of_getElem? g3
        have htk : ks.take (i + 1) = ks.take i ++ [x] := by rw [List.take_add_one, g3]; rfl
        have hcx : cntL (ks.take (i + 1)) = cntL (ks.take i) + cnt x := by rw [htk, cntL_append]; simp [cntL]
        have hc1 := cntL_nn (ks.take i)
        refine Tot.step (fun _ => spec_lockSize.l0.eq_2 ..) (Tot.pos (by omega) (Tot.pos (by omega) ?_))
        rw [rdLk_at g3, w64s (by omega)]
        have hsz : SizeOf.sizeOf x ≤ s := by have := size_kid (n := n) (ms := ms) hx; omega
        have ihx := ih x.f0 x.f1 x.f2 (by rw [etaL]; exact hsz) (by rw [etaL]; exact s3 x hx)
        rw [etaL] at ihx
        refine Tot.bind ihx ?_
        rintro t rfl
        have hxp := cnt_pos x
        have hxm := cnt_mem hx
        show Tot (fun k => if szOf x < 0 then _ else _) _
        by_cases hcx2 : cOK x 12
        · have e : szOf x = cnt x := if_pos hcx2
          have h12 := hcx2.2
          rw [e, w64 (x := c + cnt x) (by omega) (by omega)]
          refine Tot.neg (by omega) (ihr (i + 1) _ g2 (by omega) (by omega) ?_)
          intro y hy
          rw [htk] at hy
          rcases List.mem_append.1 hy with hy | hy
          · exact hok y hy
          · rw [List.mem_singleton] at hy
            rw [hy]; exact hcx2
        · have e : szOf x = -1 := if_neg hcx2
          rw [e]
          refine Tot.pos (by omega) (Tot.now ?_)
          rw [szOf, if_neg]
          intro h5
          refine hcx2 ⟨?_, by have := h5.2; omega⟩
          have h6 := h5.1
          rw [okT] at h6
          simp only [Bool.and_eq_true] at h6
          exact okTL_iff.1 h6.2 x hx
    exact loop ks 0 1 rfl (by simp [cntL]) (by omega) (by simp)
theorem specValidLock_tot {n : Int} {ms : List Int} {ks : List Lk} (h : smallT ⟨n, ms, ks⟩) : Tot (fun k => spec_ValidLock.f k n ms ks) (fun t => t = decide (cOK ⟨n, ms, ks⟩ 12)) := by
  unfold spec_ValidLock.f
  refine Tot.bind (lockSize_tot _ n ms ks (Nat.le_refl _) h) ?_
  rintro t rfl
  refine Tot.now ?_
  rw [decide_eq_decide, szOf]
  have := cnt_pos ⟨n, ms, ks⟩
  split
  · rename_i h; exact ⟨fun _ => h, fun _ => by omega⟩
  · rename_i h; exact ⟨fun _ => by omega, fun h2 => absurd h2 h⟩
theorem toIntS_l0 {xs : List Int} (hl : xs.length ≤ 1000000000000) : ∀ (d i : Nat), i + d = xs.length →
    Tot (fun k => laws_toIntS.l0 k xs (xs.take i ++ List.replicate d 0) i) (fun t => t = xs) := by
  intro d
  induction d with
  | zero =>
    intro i hi
    exact Tot.step (fun _ => laws_toIntS.l0.eq_2 ..) (Tot.neg (by omega) (Tot.now (by rw [List.replicate_zero, List.append_nil]; exact List.take_of_length_le (by omega))))
  | succ d ih =>
    intro i hi
    refine Tot.step (fun _ => laws_toIntS.l0.eq_2 ..) ?_
    rw [rd_get (by omega), w64s (by omega), Int.toNat_natCast, set_fill (by omega)]
    exact Tot.pos (by omega) (Tot.pos (by omega) (Tot.pos (by rw [List.length_append, List.length_replicate, List.length_take]; omega) (ih (i + 1) (by omega))))
theorem toIntS_tot {xs : List Int} (hl : xs.length ≤ 1000000000000) : Tot (fun k => laws_toIntS.f k xs) (fun t => t = xs) := by
  unfold laws_toIntS.f
  refine Tot.pos (by omega) (Tot.pos (by omega) ?_)
  rw [Int.toNat_natCast]
  have := toIntS_l0 hl xs.length 0 (by omega)
  rw [List.take_zero, List.nil_append] at this
  exact this
theorem eqIntS_l0 {a b : List Int} (hl : a.length = b.length) (ha : a.length ≤ 1000000000000) : ∀ (r s : List Int) (i : Nat), a.drop i = r → b.drop i = s →
    Tot (fun k => laws_eqIntS.l0 k a b i) (fun t => t = decide (r = s)) := by
  intro r
  induction r with
  | nil =>
    intro s i h h2
    have h3 := drop_nil h
    have h4 : s = [] := by rw [← h2]; exact List.drop_eq_nil_of_le (by omega)
    exact Tot.step (fun _ => laws_eqIntS.l0.eq_2 ..) (Tot.neg (by omega) (Tot.now (by simp [h4])))
  | cons x r ih =>
    intro s i h h2
    obtain ⟨h3, h4, h5⟩ := drop_cons h
    cases s with
    | nil => have := drop_nil h2; omega
    | cons y s =>
      obtain ⟨g3, g4, g5⟩ := drop_cons h2
      refine Tot.step (fun _ => laws_eqIntS.l0.eq_2 ..) ?_
      rw [rd_at h5, rd_at g5, w64s (by omega)]
      refine Tot.pos (by omega) (Tot.pos (by omega) (Tot.pos (by omega) (Tot.ite (fun e => ?_) (fun e => Tot.now (by simp [e])))))
      refine (ih s (i + 1) h4 g4).mono ?_
      rintro t rfl
      simp [e]
theorem eqIntS_tot {a b : List Int} (ha : a.length ≤ 1000000000000) : Tot (fun k => laws_eqIntS.f k a b) (fun t => t = decide (a = b)) := by
  unfold laws_eqIntS.f
  refine Tot.ite (fun h => ?_) (fun h => Tot.now ?_)
  · exact eqIntS_l0 (by omega) ha a b 0 rfl rfl
  · symm
    rw [decide_eq_false_iff_not]
    rintro rfl
    exact h rfl
theorem Tot.bindv {α β : Type} {g : Nat → Option α} {F : Nat → α → Option β} {v : α} {Q : β → Prop} (h : Tot g (fun t => t = v)) (h2 : Tot (fun k => F k v) Q) : Tot (fun k => (g k).bind (F k)) Q :=
  Tot.bind h (fun a ha => by rw [ha]; exact h2)
abbrev L4 := S44
mutual
def tsz : L4 → Int
  | ⟨_, ms, ks⟩ => (ms.length : Int) + ((ks.length : Int) + tszL ks)
def tszL : List L4 → Int
  | [] => 0
  | x :: r => tsz x + tszL r
end
mutual
def bigT : L4 → Prop
  | ⟨_, ms, ks⟩ => ms.length ≤ maxLen ∧ ks.length ≤ maxLen ∧ bigTL ks
def bigTL : List L4 → Prop
  | [] => True
  | x :: r => bigT x ∧ bigTL r
end
mutual
def sm4 : L4 → Prop
  | ⟨_, ms, ks⟩ => ms.length ≤ 10000000 ∧ ks.length ≤ 10000000 ∧ sm4L ks
def sm4L : List L4 → Prop
  | [] => True
  | x :: r => sm4 x ∧ sm4L r
end
mutual
def cv : L4 → Lk
  | ⟨n, ms, ks⟩ => ⟨n, ms, cvL ks⟩
def cvL : List L4 → List Lk
  | [] => []
  | x :: r => cv x :: cvL r
end
theorem cvL_map : ∀ (l : List L4), cvL l = l.map cv := by
  intro l
  induction l with
  | nil => rw [cvL]; rfl
  | cons x r ih => rw [cvL, ih]; rfl
theorem cv_eta (x : L4) : (⟨x.f0, x.f1, cvL x.f2⟩ : Lk) = cv x := by cases x; rw [cv]
theorem bigTL_iff : ∀ {l : List L4}, bigTL l ↔ ∀ x ∈ l, bigT x := by
  intro l
  induction l with
  | nil => simp [bigTL]
  | cons x r ih => simp [bigTL, ih]
theorem sm4L_iff : ∀ {l : List L4}, sm4L l ↔ ∀ x ∈ l, sm4 x := by
  intro l
  induction l with
  | nil => simp [sm4L]
  | cons x r ih => simp [sm4L, ih]
mutual
theorem tsz_nn : ∀ x : L4, 0 ≤ tsz x
  | ⟨_, ms, ks⟩ => by
    have := tszL_nn ks
    rw [tsz]; omega
theorem tszL_nn : ∀ l : List L4, 0 ≤ tszL l
  | [] => by simp [tszL]
  | x :: r => by
    have h1 := tsz_nn x
    have h2 := tszL_nn r
    rw [tszL]; omega
end
mutual
theorem sm4_of : ∀ x : L4, tsz x ≤ 10000000 → sm4 x
  | ⟨_, ms, ks⟩, h => by
    have h1 := tszL_nn ks
    rw [tsz] at h
    rw [sm4]
    exact ⟨by omega, by omega, sm4L_of ks (by omega)⟩
theorem sm4L_of : ∀ l : List L4, tszL l ≤ 10000000 → sm4L l
  | [], _ => by simp [sm4L]
  | x :: r, h => by
    have h1 := tsz_nn x
    have h2 := tszL_nn r
    rw [tszL] at h
    rw [sm4L]
    exact ⟨sm4_of x (by omega), sm4L_of r (by omega)⟩
end
mutual
theorem small_cv : ∀ x : L4, sm4 x → smallT (cv x)
  | ⟨_, ms, ks⟩, h => by
    rw [sm4] at h
    rw [cv, smallT]
    exact ⟨h.1, by rw [cvL_map, List.length_map]; exact h.2.1, small_cvL ks h.2.2⟩
theorem small_cvL : ∀ l : List L4, sm4L l → smallTL (cvL l)
  | [], _ => by rw [cvL, smallTL]; trivial
  | x :: r, h => by
    rw [sm4L] at h
    rw [cvL, smallTL]
    exact ⟨small_cv x h.1, small_cvL r h.2⟩
end
theorem rdL4_at {l : List L4} {i : Nat} {r : L4} (h : l[i]? = some r) : rd_T44 l (i : Int) = r := by
  simp [rd_T44, List.getD_eq_getElem?_getD, h]
theorem size_kid4 {n : Int} {ms : List Int} {ks : List L4} {x : L4} (h : x ∈ ks) : SizeOf.sizeOf x < SizeOf.sizeOf (⟨n, ms, ks⟩ : L4) := by
  have h1 := List.sizeOf_lt_of_mem h
  simp only [S44.mk.sizeOf_spec]
  omega
theorem eta4 (x : L4) : (⟨x.f0, x.f1, x.f2⟩ : L4) = x := by cases x; rfl
theorem szIntS_eq {l : List Int} (hl : l.length ≤ maxLen) {a : Int} (ha : 0 ≤ a) (ha2 : a ≤ 1048576) : laws_szIntS.f l a = some (if a - (l.length : Int) < 0 then -1 else a - (l.length : Int)) := by
  unfold maxLen at hl
  unfold laws_szIntS.f
  rw [w64 (x := a - (l.length : Int)) (by omega) (by omega)]
  split <;> rfl
/-- What is left. -/
def left (a s : Int) : Int := if a - s < 0 then -1 else a - s
theorem szLock_tot : ∀ (s : Nat) (n : Int) (ms : List Int) (ks : List L4) (a : Int), SizeOf.sizeOf (⟨n, ms, ks⟩ : L4) ≤ s → bigT ⟨n, ms, ks⟩ → 0 ≤ a → a ≤ 1048576 →
    Tot (fun k => laws_szLock.f k n ms ks a) (fun t => t = left a (tsz ⟨n, ms, ks⟩)) := by
  intro s
  induction s with
  | zero =>
    intro n ms ks a hs
    simp only [S44.mk.sizeOf_spec] at hs
    omega
  | succ s ih =>
    intro n ms ks a hs hb ha ha2
    rw [bigT] at hb
    obtain ⟨b1, b2, b3⟩ := hb
    have b3 := bigTL_iff.1 b3
    have hnn := tszL_nn ks
    refine Tot.step (fun _ => laws_szLock.f.eq_2 ..) ?_
    rw [szIntS_eq b1 ha ha2, tsz]
    refine Tot.known ?_
    by_cases h1 : a - (ms.length : Int) < 0
    · rw [if_pos h1]
      exact Tot.pos (by omega) (Tot.now (by unfold left; rw [if_pos (by omega)]))
    rw [if_neg h1]
    refine Tot.neg h1 ?_
    have loop : ∀ (r : List L4) (i : Nat) (c : Int), ks.drop i = r → 0 ≤ c → c ≤ 1048576 → ks.length ≤ 1048576 → Tot (fun k => laws_szLockS.l0 k ks c i) (fun t => t = left c (tszL r)) := by
      intro r
      induction r with
      | nil =>
        intro i c hd hc hc2 hk
        have := drop_nil hd
        refine Tot.step (fun _ => laws_szLockS.l0.eq_2 ..) (Tot.neg (by omega) (Tot.now ?_))
        rw [tszL]; unfold left; rw [if_neg (by omega)]; omega
      | cons x r ihr =>
        intro i c hd hc hc2 hk
        obtain ⟨g1, g2, g3⟩ := drop_cons hd
        have hmem := List.mem_of_getElem? g3
        have hx := tsz_nn x
        have hr := tszL_nn r
        refine Tot.step (fun _ => laws_szLockS.l0.eq_2 ..) (Tot.pos (by omega) (Tot.pos (by omega) ?_))
        rw [rdL4_at g3, w64s (by omega), tszL]
        have hsx := size_kid4 (n := n) (ms := ms) hmem
        have hq := ih x.f0 x.f1 x.f2 c (by rw [eta4]; omega) (by rw [eta4]; exact b3 x hmem) hc hc2
        rw [eta4] at hq
        refine Tot.bindv hq ?_
        unfold left
        by_cases h2 : c - tsz x < 0
        · rw [if_pos h2]
          exact Tot.pos (by omega) (Tot.now (by rw [if_pos (by omega)]))
        · rw [if_neg h2]
          refine Tot.neg h2 ((ihr (i + 1) _ g2 (by omega) (by omega) hk).mono ?_)
          rintro t rfl
          unfold left
          by_cases h3 : c - tsz x - tszL r < 0
          · rw [if_pos h3, if_pos (by omega)]
          · rw [if_neg h3, if_neg (by omega)]; omega
    have hS : Tot (fun k => laws_szLockS.f k ks (a - (ms.length : Int))) (fun t => t = left (a - (ms.length : Int)) ((ks.length : Int) + tszL ks)) := by
      unfold maxLen at b2
      refine Tot.step (fun _ => laws_szLockS.f.eq_2 ..) ?_
      rw [w64 (x := a - (ms.length : Int) - (ks.length : Int)) (by omega) (by omega)]
      refine Tot.ite (fun h2 => Tot.now (by unfold left; rw [if_pos (by omega)])) (fun h2 => (loop ks 0 _ rfl (by omega) (by omega) (by omega)).mono ?_)
      rintro t rfl
      unfold left
      by_cases h3 : a - (ms.length : Int) - (ks.length : Int) - tszL ks < 0
      · rw [if_pos h3, if_pos (by omega)]
      · rw [if_neg h3, if_neg (by omega)]; omega
    refine Tot.bindv hS ?_
    unfold left
    by_cases h2 : a - (ms.length : Int) - ((ks.length : Int) + tszL ks) < 0
    · rw [if_pos h2]
      exact Tot.pos (by omega) (Tot.now (by rw [if_pos (by omega)]))
    · rw [if_neg h2]
      exact Tot.neg h2 (Tot.now (by rw [if_neg (by omega)]; omega))
theorem toLock_tot : ∀ (s : Nat) (n : Int) (ms : List Int) (ks : List L4), SizeOf.sizeOf (⟨n, ms, ks⟩ : L4) ≤ s → sm4 ⟨n, ms, ks⟩ →
    Tot (fun k => laws_toLock.f k n ms ks) (fun t => t = (n, ms, cvL ks)) := by
  intro s
  induction s with
  | zero =>
    intro n ms ks hs
    simp only [S44.mk.sizeOf_spec] at hs
    omega
  | succ s ih =>
    intro n ms ks hs hb
    rw [sm4] at hb
    obtain ⟨b1, b2, b3⟩ := hb
    have b3 := sm4L_iff.1 b3
    refine Tot.step (fun _ => laws_toLock.f.eq_2 ..) (Tot.bindv (toIntS_tot (by omega)) ?_)
    have loop : ∀ (d i : Nat), i + d = ks.length → Tot (fun k => laws_toLockS.l0 k ks ((ks.take i).map cv ++ List.replicate d z49) i) (fun t => t = ks.map cv) := by
      intro d
      induction d with
      | zero =>
        intro i hi
        exact Tot.step (fun _ => laws_toLockS.l0.eq_2 ..) (Tot.neg (by omega) (Tot.now (by rw [List.replicate_zero, List.append_nil, List.take_of_length_le (by omega)])))
      | succ d ihd =>
        intro i hi
        have hil : i < ks.length := by omega
        have hg : ks[i]? = some ks[i] := List.getElem?_eq_getElem hil
        have hmem := List.mem_of_getElem? hg
        have hsx := size_kid4 (n := n) (ms := ms) hmem
        refine Tot.step (fun _ => laws_toLockS.l0.eq_2 ..) (Tot.pos (by omega) (Tot.pos (by omega) ?_))
        rw [rdL4_at hg, w64s (by omega), Int.toNat_natCast]
        refine Tot.bindv (ih ks[i].f0 ks[i].f1 ks[i].f2 (by rw [eta4]; omega) (by rw [eta4]; exact b3 _ hmem)) ?_
        dsimp only
        refine Tot.pos (by rw [List.length_append, List.length_replicate, List.length_map, List.length_take]; omega) ?_
        rw [cv_eta, set_fill_map hil]
        exact ihd (i + 1) (by omega)
    refine Tot.bindv (v := cvL ks) (Tot.step (fun _ => laws_toLockS.f.eq_2 ..) (Tot.pos (by omega) (Tot.pos (by omega) ?_))) (Tot.now rfl)
    rw [Int.toNat_natCast, cvL_map]
    exact loop ks.length 0 (by omega)
theorem eqLock_tot : ∀ (s : Nat) (n : Int) (ms : List Int) (ks : List Lk), SizeOf.sizeOf (⟨n, ms, ks⟩ : Lk) ≤ s → smallT ⟨n, ms, ks⟩ →
    Tot (fun k => laws_eqLock.f k n ms ks n ms ks) (fun t => t = true) := by
  intro s
  induction s with
  | zero =>
    intro n ms ks hs
    simp only [S49.mk.sizeOf_spec] at hs
    omega
  | succ s ih =>
    intro n ms ks hs hb
    rw [smallT] at hb
    obtain ⟨b1, b2, b3⟩ := hb
    have b3 := smallTL_iff.1 b3
    refine Tot.step (fun _ => laws_eqLock.f.eq_2 ..) (Tot.pos rfl (Tot.bindv (eqIntS_tot (by omega)) (Tot.pos (by simp) ?_)))
    have loop : ∀ (d i : Nat), i + d = ks.length → Tot (fun k => laws_eqLockS.l0 k ks ks i) (fun t => t = true) := by
      intro d
      induction d with
      | zero =>
        intro i hi
        exact Tot.step (fun _ => laws_eqLockS.l0.eq_2 ..) (Tot.neg (by omega) (Tot.now rfl))
      | succ d ihd =>
        intro i hi
        have hil : i < ks.length := by omega
        have hg : ks[i]? = some ks[i] := List.getElem?_eq_getElem hil
        have hmem := List.mem_of_getElem? hg
        have hsx := size_kid (n := n) (ms := ms) hmem
        refine Tot.step (fun _ => laws_eqLockS.l0.eq_2 ..) (Tot.pos (by omega) (Tot.pos (by omega) (Tot.pos (by omega) ?_)))
        rw [rdLk_at hg, w64s (by omega)]
        exact Tot.bindv (ih ks[i].f0 ks[i].f1 ks[i].f2 (by rw [etaL]; omega) (by rw [etaL]; exact b3 _ hmem)) (Tot.pos rfl (ihd (i + 1) (by omega)))
    refine Tot.bindv (v := true) (Tot.step (fun _ => laws_eqLockS.f.eq_2 ..) (Tot.pos rfl (loop ks.length 0 (by omega)))) (Tot.pos rfl (Tot.now rfl))
theorem FnExactValidLock : ∀ (n : Int) (ms : List Int) (ks : List L4), bigT ⟨n, ms, ks⟩ → ∃ k, laws_FnExactValidLock.f k n ms ks = some true := by
  intro n ms ks hb
  refine Tot.ends (g := fun k => laws_FnExactValidLock.f k n ms ks) ?_
  unfold laws_FnExactValidLock.f
  refine Tot.bindv (szLock_tot _ n ms ks 1048576 (Nat.le_refl _) hb (by omega) (by omega)) ?_
  unfold left
  by_cases h0 : 1048576 - tsz ⟨n, ms, ks⟩ < 0
  · rw [if_pos h0]
    exact Tot.pos (by omega) (Tot.now rfl)
  rw [if_neg h0]
  refine Tot.neg h0 ?_
  have hs := sm4_of ⟨n, ms, ks⟩ (by omega)
  have hc := small_cv _ hs
  rw [cv] at hc
  have ht := toLock_tot _ n ms ks (Nat.le_refl _) hs
  refine Tot.bindv ht (Tot.bindv (specValidLock_tot hc) (Tot.bindv ht (Tot.bindv (implValidLock_tot hc) (Tot.neg (by simp) ?_))))
  refine Tot.bindv ht (Tot.bindv (eqLock_tot _ n ms (cvL ks) (Nat.le_refl _) hc) (Tot.pos rfl (Tot.now rfl)))
end Go.Proofs.Ytnijdifoejiafaa.Pure
