/- Core: small rules for programs with rounds; plain lemmas on lists. No statement of the claim. -/
import Derived.Test.YtnijdifoejiafaaWWords
import Derived.Test.YtnijdifoejiafaaWMore
namespace Go.Proofs.Ytnijdifoejiafaa.Pure
open Go.RowKit Go.Proofs.YtnijdifoejiafaaW.PrintWords

/-- From some number of rounds on it answers r, and P r. -/
def Tot {α : Type} (g : Nat → Option α) (P : α → Prop) : Prop := ∃ r, P r ∧ ∃ K, ∀ k, K ≤ k → g k = some r

section
variable {α β : Type} {g f : Nat → Option α} {P Q : α → Prop}
theorem Tot.rounds (h : Tot g P) : ∃ r, P r ∧ ∃ k, g k = some r := by
  obtain ⟨r, hr, K, hK⟩ := h
  exact ⟨r, hr, K, hK K (Nat.le_refl _)⟩
theorem Tot.ends {v : α} (h : Tot g (fun r => r = v)) : ∃ k, g k = some v := by
  obtain ⟨r, rfl, k, hk⟩ := h.rounds
  exact ⟨k, hk⟩
theorem Tot.now {r : α} (h : P r) : Tot (fun _ => some r) P := ⟨r, h, 0, fun _ _ => rfl⟩
theorem Tot.bind {g : Nat → Option α} {F : Nat → α → Option β} {P : α → Prop} {Q : β → Prop} (h : Tot g P) (h2 : ∀ a, P a → Tot (fun k => F k a) Q) : Tot (fun k => (g k).bind (F k)) Q := by
  obtain ⟨a, ha, K, hK⟩ := h
  obtain ⟨r, hr, K2, hK2⟩ := h2 a ha
  refine ⟨r, hr, max K K2, fun k hk => ?_⟩
  have h1 := hK k (by omega)
  have h3 := hK2 k (by omega)
  simp only [h1, Option.bind_some]
  exact h3
theorem Tot.known {a : α} {F : Nat → α → Option β} {Q : β → Prop} (h2 : Tot (fun k => F k a) Q) : Tot (fun k => (some a).bind (F k)) Q := h2
theorem Tot.pos {c : Prop} {inst : Decidable c} (hc : c) (h : Tot g P) : Tot (fun k => @ite _ c inst (g k) (f k)) P := by
  obtain ⟨r, hr, K, hK⟩ := h
  exact ⟨r, hr, K, fun k hk => (if_pos hc).trans (hK k hk)⟩
theorem Tot.neg {c : Prop} {inst : Decidable c} (hc : ¬ c) (h : Tot f P) : Tot (fun k => @ite _ c inst (g k) (f k)) P := by
  obtain ⟨r, hr, K, hK⟩ := h
  exact ⟨r, hr, K, fun k hk => (if_neg hc).trans (hK k hk)⟩
theorem Tot.ite {c : Prop} {inst : Decidable c} (h : c → Tot g P) (h2 : ¬ c → Tot f P) : Tot (fun k => @ite _ c inst (g k) (f k)) P := by
  by_cases hc : c
  · exact Tot.pos hc (h hc)
  · exact Tot.neg hc (h2 hc)
theorem Tot.step (h : ∀ k, g (k + 1) = f k) (hf : Tot f P) : Tot g P := by
  obtain ⟨r, hr, K, hK⟩ := hf
  refine ⟨r, hr, K + 1, fun k hk => ?_⟩
  obtain ⟨m, rfl⟩ : ∃ m, k = m + 1 := ⟨k - 1, by omega⟩
  rw [h]
  exact hK m (by omega)
theorem Tot.mono (h : Tot g P) (hPQ : ∀ r, P r → Q r) : Tot g Q := by
  obtain ⟨r, hr, x⟩ := h
  exact ⟨r, hPQ r hr, x⟩
theorem Tot.congr (h : ∀ k, g k = f k) (hf : Tot f P) : Tot g P := by
  obtain ⟨r, hr, K, hK⟩ := hf
  exact ⟨r, hr, K, fun k hk => (h k).trans (hK k hk)⟩
end

/-! numbers -/
theorem w64 {x : Int} (h0 : -9223372036854775808 ≤ x) (h1 : x < 9223372036854775808) : wrap64 x = x := by
  unfold wrap64; omega
theorem w64s {i : Nat} (h : i < 4611686018427387904) : wrap64 ((i : Int) + 1) = ((i + 1 : Nat) : Int) := by
  unfold wrap64; omega
theorem tdiv_nn {a b : Int} (ha : 0 ≤ a) : Int.tdiv a b = a / b := Int.tdiv_eq_ediv_of_nonneg ha
theorem tmod_nn {a b : Int} (ha : 0 ≤ a) : Int.tmod a b = a % b := Int.tmod_eq_emod_of_nonneg ha
theorem wf_i64 {x : Int} (h : (Lit.int .i64 x).wf = true) : -9223372036854775808 ≤ x ∧ x < 9223372036854775808 := by
  simp [Lit.wf, IntKind.min, IntKind.max, IntKind.bits, IntKind.signed] at h
  omega
theorem wf_u8 {x : Int} (h : (Lit.int .u8 x).wf = true) : 0 ≤ x ∧ x < 256 := by
  simp [Lit.wf, IntKind.min, IntKind.max, IntKind.bits, IntKind.signed] at h
  omega
theorem xor_nn {a b : Int} (ha : 0 ≤ a) (ha2 : a < 4611686018427387904) (hb : 0 ≤ b) (hb2 : b < 4611686018427387904) : 0 ≤ Go.bits .xor .i64 a b := by
  obtain ⟨m, rfl⟩ := Int.eq_ofNat_of_zero_le ha
  obtain ⟨n, rfl⟩ := Int.eq_ofNat_of_zero_le hb
  have hm : m < 2 ^ 62 := by omega
  have hn : n < 2 ^ 62 := by omega
  have hx : m ^^^ n < 2 ^ 62 := Nat.xor_lt_two_pow hm hn
  have e1 : m % 2 ^ 64 = m := Nat.mod_eq_of_lt (by omega)
  have e2 : n % 2 ^ 64 = n := Nat.mod_eq_of_lt (by omega)
  have e : (BitVec.ofInt IntKind.i64.bits (m : Int) ^^^ BitVec.ofInt IntKind.i64.bits (n : Int)).toNat = m ^^^ n := by
    rw [BitVec.toNat_xor, BitVec.ofInt_natCast, BitVec.ofInt_natCast, BitVec.toNat_ofNat, BitVec.toNat_ofNat]
    show (m % 2 ^ 64) ^^^ (n % 2 ^ 64) = m ^^^ n
    rw [e1, e2]
  show 0 ≤ IntKind.i64.wrap ((BitVec.ofInt IntKind.i64.bits (m : Int) ^^^ BitVec.ofInt IntKind.i64.bits (n : Int)).toNat : Int)
  rw [e, IntKind.wrap_i64]
  omega

/-! lists -/
theorem drop_cons {α : Type} {xs : List α} {i : Nat} {x : α} {r : List α} (h : xs.drop i = x :: r) : i < xs.length ∧ xs.drop (i + 1) = r ∧ xs[i]? = some x := by
  have hl : i < xs.length := by
    rcases Nat.lt_or_ge i xs.length with h1 | h1
    · exact h1
    · rw [List.drop_eq_nil_of_le h1] at h; cases h
  rw [List.drop_eq_getElem_cons hl] at h
  injection h with h1 h2
  exact ⟨hl, h2, by rw [List.getElem?_eq_getElem hl, h1]⟩
theorem drop_nil {α : Type} {xs : List α} {i : Nat} (h : xs.drop i = []) : xs.length ≤ i := by
  rw [List.drop_eq_nil_iff] at h; exact h
theorem rd_at {xs : List Int} {i : Nat} {x : Int} (h : xs[i]? = some x) : rd xs (i : Int) = x := by
  simp [rd, List.getD_eq_getElem?_getD, h]
theorem rd_drop {xs : List Int} {i : Nat} {x : Int} {r : List Int} (h : xs.drop i = x :: r) : rd xs (i : Int) = x := rd_at (drop_cons h).2.2
theorem rd_mem {xs : List Int} {i : Int} (h0 : 0 ≤ i) (h1 : i < xs.length) : rd xs i ∈ xs := by
  have hl : i.toNat < xs.length := by omega
  simp [rd, List.getD_eq_getElem?_getD, List.getElem?_eq_getElem hl]
theorem rd_get {xs : List Int} {i : Nat} (h : i < xs.length) : rd xs (i : Int) = xs[i] := by
  simp [rd, List.getD_eq_getElem?_getD, List.getElem?_eq_getElem h]
/-- Different numbers below n are at most n. -/
theorem nodup_le : ∀ (n : Nat) (l : List Int), l.Nodup → (∀ x ∈ l, 0 ≤ x ∧ x < n) → l.length ≤ n := by
  intro n
  induction n with
  | zero =>
    intro l _ h
    cases l with
    | nil => simp
    | cons x r => have := h x (by simp); omega
  | succ n ih =>
    intro l hl h
    have h1 := ih (l.erase (n : Int)) (hl.erase _) (fun x hx => by
      have h2 := (hl.mem_erase_iff).1 hx
      have h3 := h x h2.2
      have h4 := h2.1
      omega)
    have h5 := List.length_erase (a := (n : Int)) (l := l)
    split at h5 <;> omega

theorem set_fill {α : Type} {xs : List α} {z : α} {i d : Nat} (h : i < xs.length) : (xs.take i ++ List.replicate (d + 1) z).set i xs[i] = xs.take (i + 1) ++ List.replicate d z := by
  have e : i - (List.take i xs).length = 0 := by simp; omega
  rw [List.set_append_right _ _ (by simp; omega), List.replicate_succ, List.take_succ_eq_append_getElem h, e, List.set_cons_zero, List.append_assoc]
  rfl
theorem set_fill_map {α β : Type} {xs : List α} {f : α → β} {z : β} {i d : Nat} (h : i < xs.length) : ((xs.take i).map f ++ List.replicate (d + 1) z).set i (f xs[i]) = (xs.take (i + 1)).map f ++ List.replicate d z := by
  have e : i - ((List.take i xs).map f).length = 0 := by simp; omega
  rw [List.set_append_right _ _ (by simp; omega), List.replicate_succ, List.take_succ_eq_append_getElem h, e, List.set_cons_zero, List.map_append, List.append_assoc]
  rfl
theorem take_set_succ {α : Type} {xs : List α} {i : Nat} {x : α} (h : i < xs.length) : (xs.set i x).take (i + 1) = xs.take i ++ [x] := by
  have e : (List.take i xs).set i x = List.take i xs := List.set_eq_of_length_le (by rw [List.length_take]; omega)
  rw [List.take_succ_eq_append_getElem (by simpa using h), List.take_set, e, List.getElem_set_self]
/-- m, m + 1, .., n numbers. -/
def ramp (m : Int) : Nat → List Int
  | 0 => []
  | n + 1 => m :: ramp (m + 1) n
theorem ramp_length (m : Int) (n : Nat) : (ramp m n).length = n := by
  induction n generalizing m with
  | zero => rfl
  | succ n ih => simp [ramp, ih]
/-- Numbers in 0..n-1, no two equal. -/
def DB (l : List Int) (n : Int) : Prop := (∀ x ∈ l, 0 ≤ x ∧ x < n) ∧ l.Nodup
instance (l : List Int) (n : Int) : Decidable (DB l n) := inferInstanceAs (Decidable ((∀ x ∈ l, 0 ≤ x ∧ x < n) ∧ l.Nodup))
theorem DB.le {l : List Int} {n : Int} (h : DB l n) (hn : 0 ≤ n) : (l.length : Int) ≤ n := by
  obtain ⟨m, rfl⟩ := Int.eq_ofNat_of_zero_le hn
  have := nodup_le m l h.2 (fun x hx => h.1 x hx)
  omega
/-- An order of 1..12 members. -/
def VO (l : List Int) : Prop := 1 ≤ (l.length : Int) ∧ (l.length : Int) ≤ 12 ∧ DB l l.length
instance (l : List Int) : Decidable (VO l) := inferInstanceAs (Decidable (1 ≤ (l.length : Int) ∧ (l.length : Int) ≤ 12 ∧ DB l l.length))
/-- The place of v in l, counted from i; -1 if it is not there. -/
def posFrom : List Int → Int → Int → Int
  | [], _, _ => -1
  | x :: r, v, i => if x = v then i else posFrom r v (i + 1)
theorem posFrom_none {l : List Int} {v i : Int} (h : v ∉ l) : posFrom l v i = -1 := by
  induction l generalizing i with
  | nil => rfl
  | cons x r ih =>
    simp only [List.mem_cons, not_or] at h
    rw [posFrom, if_neg (fun e => h.1 e.symm)]
    exact ih h.2
theorem posFrom_some {l : List Int} {v i : Int} (h : v ∈ l) : ∃ j : Nat, j < l.length ∧ l[j]? = some v ∧ posFrom l v i = i + j := by
  induction l generalizing i with
  | nil => cases h
  | cons x r ih =>
    by_cases hx : x = v
    · exact ⟨0, by simp, by simp [hx], by rw [posFrom, if_pos hx]; simp⟩
    · obtain ⟨j, h1, h2, h3⟩ := ih (i := i + 1) (by rcases List.mem_cons.1 h with h | h; exact absurd h.symm hx; exact h)
      refine ⟨j + 1, by simp; omega, by simpa using h2, ?_⟩
      rw [posFrom, if_neg hx, h3]; omega
theorem posFrom_ge {l : List Int} {v i : Int} (hi : 0 ≤ i) : 0 ≤ posFrom l v i ↔ v ∈ l := by
  constructor
  · intro h
    rcases Classical.em (v ∈ l) with h1 | h1
    · exact h1
    · rw [posFrom_none h1] at h; omega
  · intro h
    obtain ⟨j, _, _, h3⟩ := posFrom_some (i := i) h
    omega
theorem posFrom_nodup {l : List Int} (h : l.Nodup) {j : Nat} {v i : Int} (hv : l[j]? = some v) : posFrom l v i = i + j := by
  obtain ⟨m, h1, h2, h3⟩ := posFrom_some (i := i) (List.mem_of_getElem? hv)
  rw [h3]
  have hj := (List.getElem?_eq_some_iff.1 hv)
  have hm := (List.getElem?_eq_some_iff.1 h2)
  obtain ⟨a, ha⟩ := hj
  obtain ⟨b, hb⟩ := hm
  have hmj : m = j := by
    rcases Nat.lt_trichotomy m j with h4 | h4 | h4
    · exact absurd (hb.trans ha.symm) (List.pairwise_iff_getElem.1 h m j b a h4)
    · exact h4
    · exact absurd (ha.trans hb.symm) (List.pairwise_iff_getElem.1 h j m a b h4)
  rw [hmj]
end Go.Proofs.Ytnijdifoejiafaa.Pure
