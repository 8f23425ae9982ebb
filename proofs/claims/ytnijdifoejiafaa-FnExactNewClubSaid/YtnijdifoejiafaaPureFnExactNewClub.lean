/- FnExactNewClub: for all arguments NewClub of the program and of the reference agree, and memory is kept apart. No condition beyond the statement's own. -/
import Derived.Test.YtnijdifoejiafaaQFnExactNewClubx3
import Derived.Test.YtnijdifoejiafaaCore
namespace Go.Proofs.Ytnijdifoejiafaa.Pure
open Go.RowKit Go.Proofs.Ytnijdifoejiafaa.PFnExactNewClub Go.Proofs.YtnijdifoejiafaaW.PrintWords
set_option linter.unusedSimpArgs false
set_option linter.unusedVariables false

theorem inRange_eq (a b c : Int) : spec_inRange.f a b c = some (decide (b ≤ a ∧ a ≤ c)) := by
  unfold spec_inRange.f
  by_cases h : b ≤ a
  · rw [if_pos h]; simp [h]
  · rw [if_neg h]; simp [h]
theorem eqIntS_l0 {a b : List Int} (hl : a.length = b.length) (ha : a.length ≤ 1000000000000) : ∀ (r s : List Int) (i : Nat), a.drop i = r → b.drop i = s →
    Tot (fun k => laws_eqIntS.l0 k a b i) (fun t => t = decide (r = s)) := by
  intro r
  induction r with
  | nil =>
    intro s i h h2
    have h3 := drop_nil h
    have h4 : s = [] := by rw [← h2]; exact List.drop_eq_nil_of_le (by omega)
    exact Tot.step (fun _ => laws_eqIntS.l0.eq_2 ..) (Tot.neg (by omega) (Tot.now (by simp [h4])))
  | cons x r ih =>
    intro s i h h2
    obtain ⟨h3, h4, h5⟩ := drop_cons h
    cases s with
    | nil => have := drop_nil h2; omega
    | cons y s =>
      obtain ⟨g3, g4, g5⟩ := drop_cons h2
      refine Tot.step (fun _ => laws_eqIntS.l0.eq_2 ..) ?_
      rw [rd_at h5, rd_at g5, w64s (by omega)]
      refine Tot.pos (by omega) (Tot.pos (by omega) (Tot.pos (by omega) (Tot.ite (fun e => ?_) (fun e => Tot.now (by simp [e])))))
      refine (ih s (i + 1) h4 g4).mono ?_
      rintro t rfl
      simp [e]
theorem eqIntS_tot {a b : List Int} (ha : a.length ≤ 1000000000000) : Tot (fun k => laws_eqIntS.f k a b) (fun t => t = decide (a = b)) := by
  unfold laws_eqIntS.f
  refine Tot.ite (fun h => ?_) (fun h => Tot.now ?_)
  · exact eqIntS_l0 (by omega) ha a b 0 rfl rfl
  · symm
    rw [decide_eq_false_iff_not]
    rintro rfl
    exact h rfl
theorem markIntS_l0 : ∀ (d i : Nat) (xs : List Int) (m : Int), xs.length ≤ 1000000000000 → 0 ≤ m → m + d ≤ 1000000000000 → i + d = xs.length →
    Tot (fun k => laws_markIntS.l0 k xs m i) (fun t => t = (m + d, xs.take i ++ ramp m d)) := by
  intro d
  induction d with
  | zero =>
    intro i xs m hl hm hm2 hi
    refine Tot.step (fun _ => laws_markIntS.l0.eq_2 ..) (Tot.neg (by omega) (Tot.now ?_))
    rw [List.take_of_length_le (by omega)]
    simp [ramp]
  | succ d ih =>
    intro i xs m hl hm hm2 hi
    refine Tot.step (fun _ => laws_markIntS.l0.eq_2 ..) ?_
    rw [w64s (by omega), w64 (x := m + 1) (by omega) (by omega), Int.toNat_natCast]
    refine Tot.pos (by omega) (Tot.pos (by omega) ((ih (i + 1) _ (m + 1) (by simp; omega) (by omega) (by omega) (by simp; omega)).mono ?_))
    rintro t rfl
    rw [take_set_succ (by omega)]
    simp [ramp]
    omega
theorem markIntS_tot {xs : List Int} (hl : xs.length ≤ 100000000000) {m : Int} (hm : 0 ≤ m) (hm2 : m ≤ 100000000000) : Tot (fun k => laws_markIntS.f k xs m) (fun t => t = (m + xs.length, ramp m xs.length)) := by
  unfold laws_markIntS.f
  refine (markIntS_l0 xs.length 0 xs m (by omega) hm (by omega) (by omega)).mono ?_
  rintro t rfl
  simp
theorem heldIntS_l0 {xs : List Int} (hl : xs.length ≤ 1000000000000) : ∀ (d i : Nat) (m : Int), 0 ≤ m → m + d ≤ 1000000000000 → i + d = xs.length → xs.drop i = ramp m d →
    Tot (fun k => laws_heldIntS.l0 k xs m i) (fun t => t = m + d) := by
  intro d
  induction d with
  | zero =>
    intro i m hm hm2 hi h
    exact Tot.step (fun _ => laws_heldIntS.l0.eq_2 ..) (Tot.neg (by omega) (Tot.now (by simp)))
  | succ d ih =>
    intro i m hm hm2 hi h
    rw [ramp] at h
    obtain ⟨h3, h4, h5⟩ := drop_cons h
    refine Tot.step (fun _ => laws_heldIntS.l0.eq_2 ..) ?_
    rw [w64s (by omega), w64 (x := m + 1) (by omega) (by omega), rd_at h5]
    refine Tot.pos (by omega) (Tot.pos (by omega) (Tot.pos rfl ((ih (i + 1) (m + 1) (by omega) (by omega) (by omega) h4).mono ?_)))
    rintro t rfl
    omega
theorem heldIntS_tot {n : Nat} (hl : n ≤ 100000000000) {m : Int} (hm : 0 ≤ m) (hm2 : m ≤ 100000000000) : Tot (fun k => laws_heldIntS.f k (ramp m n) m) (fun t => t = m + n) := by
  unfold laws_heldIntS.f
  have h := ramp_length m n
  exact heldIntS_l0 (by omega) n 0 m hm (by omega) (by omega) rfl
theorem Tot.bindv {α β : Type} {g : Nat → Option α} {F : Nat → α → Option β} {v : α} {Q : β → Prop} (h : Tot g (fun t => t = v)) (h2 : Tot (fun k => F k v) Q) : Tot (fun k => (g k).bind (F k)) Q :=
  Tot.bind h (fun a ha => by rw [ha]; exact h2)
/-- The stakes of a new club. -/
def fresh (n : Int) : List Int := if 1 ≤ n ∧ n ≤ 12 then List.replicate n.toNat 0 else []
theorem fresh_len (n : Int) : (fresh n).length ≤ 12 := by
  unfold fresh
  split
  · rw [List.length_replicate]; omega
  · simp
theorem specNew_eq (n : Int) : spec_NewClub.f n = some (fresh n, [], 0, 0, 0) := by
  unfold spec_NewClub.f fresh
  simp only [inRange_eq, Option.bind_some, decide_eq_true_eq]
  by_cases h : 1 ≤ n ∧ n ≤ 12
  · rw [if_pos h, if_pos (by omega), if_pos (by omega), if_pos h]
  · rw [if_neg h, if_neg h]
theorem implNew_eq (n : Int) : impl_NewClub.f n = some (fresh n, [], 0, 0, 0) := by
  unfold impl_NewClub.f fresh
  by_cases h : n < 1
  · rw [if_pos h, if_neg (by omega)]
  · by_cases h2 : n > 12
    · rw [if_neg h, if_pos h2, if_neg (by omega)]
    · rw [if_neg h, if_neg h2, if_pos (by omega), if_pos (by omega), if_pos (by omega)]
theorem eqClub_tot (l : List Int) (hl : l.length ≤ 12) : Tot (fun k => laws_eqClub.f k l [] 0 0 0 l [] 0 0 0) (fun t => t = true) := by
  unfold laws_eqClub.f laws_eqLoanS.f
  refine Tot.bindv (eqIntS_tot (by omega)) (Tot.pos (by simp) ?_)
  refine Tot.bindv (v := true) (Tot.pos rfl (Tot.step (fun _ => laws_eqLoanS.l0.eq_2 ..) (Tot.neg (by decide) (Tot.now rfl)))) ?_
  exact Tot.pos rfl (Tot.pos rfl (Tot.pos rfl (Tot.pos rfl (Tot.now rfl))))
theorem FnExactNewClub : laws_FnExactNewClub.Pure := by
  intro n _
  refine Tot.ends (g := fun k => laws_FnExactNewClub.f k n) ?_
  unfold laws_FnExactNewClub.f
  rw [specNew_eq, implNew_eq]
  have hl := fresh_len n
  generalize fresh n = l at hl ⊢
  refine Tot.known (Tot.known ?_)
  dsimp only
  refine Tot.bindv (eqClub_tot l hl) (Tot.pos rfl ?_)
  unfold laws_markClub.f laws_heldClub.f laws_markLoanS.f laws_heldLoanS.f
  have held : Tot (fun k => (laws_heldIntS.f k (ramp 1 l.length) 1).bind fun t => if t < 0 then some (-1) else (laws_heldLoanS.l0 k [] t 0).bind fun t2 => if t2 < 0 then some (-1) else some t2) (fun t => t = 1 + (l.length : Int)) := by
    refine Tot.bindv (heldIntS_tot (by omega) (by omega) (by omega)) (Tot.neg (by omega) ?_)
    refine Tot.bindv (v := 1 + (l.length : Int)) (Tot.step (fun _ => laws_heldLoanS.l0.eq_2 ..) (Tot.neg (by decide) (Tot.now rfl))) ?_
    exact Tot.neg (by omega) (Tot.now rfl)
  refine Tot.bindv (v := ((1 : Int) + l.length, ramp 1 l.length)) (Tot.bindv (markIntS_tot (by omega) (by omega) (by omega)) ?_) ?_
  · dsimp only
    exact Tot.bindv (v := 1 + (l.length : Int)) (Tot.step (fun _ => laws_markLoanS.l0.eq_2 ..) (Tot.neg (by decide) (Tot.now rfl))) (Tot.now rfl)
  dsimp only
  refine Tot.bindv held (Tot.neg (by omega) (Tot.pos rfl ?_))
  refine Tot.known ?_
  dsimp only
  refine Tot.bindv (eqClub_tot l hl) (Tot.pos rfl ?_)
  exact Tot.bindv held (Tot.neg (by omega) (Tot.pos rfl (Tot.now rfl)))
end Go.Proofs.Ytnijdifoejiafaa.Pure
