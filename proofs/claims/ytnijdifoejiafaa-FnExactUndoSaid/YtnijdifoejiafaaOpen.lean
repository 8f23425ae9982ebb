/- Open: what a reading of an argument as data says of its cells, kind by kind. No statement of the claim. -/
import Derived.Test.YtnijdifoejiafaaWWords
import Derived.Test.YtnijdifoejiafaaWMore
import Derived.ChangeArms
import Derived.ChangeSlices
import Derived.WideShapes
namespace Go.Proofs.Ytnijdifoejiafaa.Open
open Go.RowKit Go.Proofs.YtnijdifoejiafaaW.PrintWords

section
variable {H : Type} {enc : TypeId × Value → H} {P : Program} {W : World}
/-- Whatever is read as of type t, with this fuel, has the cells of kind d of some value, of which G is true. -/
def OpensN (enc : TypeId × Value → H) (P : Program) (W : World) (n : Nat) (t : TypeId) {α : Type} (d : Kd α) (G : α → Prop) : Prop :=
  ∀ (cs : List Value) (x : DataW H × List MemPlace), DataW.trod enc P W 0 (fun _ => true) true n t cs = some x → ∃ v, d.K W v cs ∧ G v
theorem opens_int {n : Nat} {t : TypeId} {k : IntKind} (ht : P.underlying t = some (.int k)) : OpensN enc P W n t (Kd.int k) (fun v => (Lit.int k v).wf = true) := by
  intro cs x h
  obtain ⟨m, rfl, _, hw⟩ := DataW.trod_int ht h
  exact ⟨m, rfl, hw⟩
theorem opens_bool {n : Nat} {t : TypeId} (ht : P.underlying t = some .bool) : OpensN enc P W n t Kd.bool (fun _ => True) := by
  intro cs x h
  obtain ⟨m, rfl, _⟩ := DataW.trod_bool ht h
  exact ⟨m, rfl, trivial⟩
theorem pick_lt {α : Type} {n : Nat} {p : Nat → α → Prop} (h : ∀ i, i < n → ∃ x, p i x) : ∃ l : List α, l.length = n ∧ ∀ i x, l[i]? = some x → p i x := by
  induction n with
  | zero => exact ⟨[], rfl, fun i x hx => by simp at hx⟩
  | succ n ih =>
    obtain ⟨l, h1, h2⟩ := ih (fun i hi => h i (by omega))
    obtain ⟨x, hx⟩ := h n (by omega)
    refine ⟨l ++ [x], by simp [h1], fun i y hy => ?_⟩
    rcases Nat.lt_trichotomy i n with h3 | h3 | h3
    · rw [List.getElem?_append_left (by omega)] at hy
      exact h2 i y hy
    · subst h3
      rw [List.getElem?_append_right (by omega)] at hy
      simp [h1] at hy
      rw [← hy]; exact hx
    · have := (List.getElem?_eq_some_iff.1 hy).1
      simp [h1] at this
      omega
theorem opens_slice {α : Type} {d : Kd α} {G : α → Prop} {n : Nat} {t e e' : TypeId} (ht : P.underlying t = some (.slice e)) (hc : P.cellsOf e = d.sz) (h : ∀ m, m < n → OpensN enc P W m e d G) :
    OpensN enc P W n t (Kd.slice e' d) (fun xs => xs.length ≤ maxLen ∧ ∀ x ∈ xs, G x) := by
  intro cs x hx
  rcases DataW.trod_slice ht hx with ⟨rfl, _⟩ | ⟨a, len, cap, elems, rest, m, rfl, rfl, _, hb, hl, hm, hlen, hel, _, _⟩
  · exact ⟨[], ⟨none, 0, rfl, Nat.le_refl _, rfl, by simp, fun h0 => by simp at h0⟩, by simp [maxLen], fun x hx => by simp at hx⟩
  · have each : ∀ i, i < len → ∃ v, G v ∧ ∃ c, c.length = d.sz ∧ d.K W v c ∧ ∀ j u, c[j]? = some u → W.cell? (a.add (i * d.sz + j)) = some u := by
      intro i hi
      have h1 := hel i hi
      rw [List.getElem?_eq_getElem (by omega)] at h1
      obtain ⟨c, h2, h3⟩ := Option.bind_eq_some_iff.1 h1
      obtain ⟨v, hk, hg⟩ := h m (by omega) c _ h3
      obtain ⟨_, h5, h6⟩ := World.cells?_some h2
      refine ⟨v, hg, c, by rw [h5, hc], hk, fun j u hu => ?_⟩
      have hj := (List.getElem?_eq_some_iff.1 hu).1
      rw [← add_add, ← hc, h6 j (by omega), hu]
    obtain ⟨xs, hxl, hxs⟩ := pick_lt each
    refine ⟨xs, ⟨some a, cap, by rw [hxl], by omega, rfl, by simp only [maxLen] at hm; omega, fun _ => ⟨a, rfl, fun j p hp => (hxs j p hp).2⟩⟩, by omega, fun y hy => ?_⟩
    obtain ⟨i, hi⟩ := List.getElem?_of_mem hy
    exact (hxs i y hi).1
theorem opens_iso {α β : Type} {d : Kd α} {f : β → α} {G : α → Prop} {n : Nat} {t : TypeId} (g : α → β) (hfg : ∀ v, f (g v) = v) (h : OpensN enc P W n t d G) : OpensN enc P W n t (Kd.iso d f) (fun x => G (f x)) := by
  intro cs x hx
  obtain ⟨v, h1, h2⟩ := h cs x hx
  exact ⟨g v, by show d.K W (f (g v)) cs; rw [hfg]; exact h1, by show G (f (g v)); rw [hfg]; exact h2⟩
theorem opens_mono {α : Type} {d : Kd α} {G G' : α → Prop} {n : Nat} {t : TypeId} (h : OpensN enc P W n t d G) (hG : ∀ v, G v → G' v) : OpensN enc P W n t d G' := by
  intro cs x hx
  obtain ⟨v, h1, h2⟩ := h cs x hx
  exact ⟨v, h1, hG v h2⟩
theorem opens_struct2 {α β : Type} {a : Kd α} {b : Kd β} {Ga : α → Prop} {Gb : β → Prop} {n : Nat} {t : TypeId} {f0 f1 : Field} (ht : P.underlying t = some (.struct #[f0, f1])) (hc : P.cellsOf t = 2)
    (h0 : f0.offset = 0 ∧ P.cellsOf f0.type = 1) (h1 : f1.offset = 1 ∧ P.cellsOf f1.type = 1)
    (g0 : ∀ m, m < n → OpensN enc P W m f0.type a Ga) (g1 : ∀ m, m < n → OpensN enc P W m f1.type b Gb) : OpensN enc P W n t (Kd.pair a b) (fun v => Ga v.1 ∧ Gb v.2) := by
  intro cs x hx
  obtain ⟨xs, m, rfl, _, hl, hxl, hf⟩ := DataW.trod_struct ht hx
  rw [hc] at hl
  obtain ⟨c0, c1, rfl⟩ : ∃ c0 c1, cs = [c0, c1] := by
    match cs, hl with
    | [c0, c1], _ => exact ⟨c0, c1, rfl⟩
  have e0 := hf 0 f0 rfl
  have e1 := hf 1 f1 rfl
  have hxl2 : xs.length = 2 := hxl
  rw [h0.1, h0.2, List.getElem?_eq_getElem (by omega)] at e0
  rw [h1.1, h1.2, List.getElem?_eq_getElem (by omega)] at e1
  obtain ⟨v0, k0, w0⟩ := g0 m (by omega) _ _ e0
  obtain ⟨v1, k1, w1⟩ := g1 m (by omega) _ _ e1
  exact ⟨(v0, v1), ⟨[c0], [c1], rfl, k0, k1⟩, w0, w1⟩
theorem opens_struct3 {α β γ : Type} {a : Kd α} {b : Kd β} {c : Kd γ} {Ga : α → Prop} {Gb : β → Prop} {Gc : γ → Prop} {n : Nat} {t : TypeId} {f0 f1 f2 : Field} (ht : P.underlying t = some (.struct #[f0, f1, f2])) (hc : P.cellsOf t = 3)
    (h0 : f0.offset = 0 ∧ P.cellsOf f0.type = 1) (h1 : f1.offset = 1 ∧ P.cellsOf f1.type = 1) (h2 : f2.offset = 2 ∧ P.cellsOf f2.type = 1)
    (g0 : ∀ m, m < n → OpensN enc P W m f0.type a Ga) (g1 : ∀ m, m < n → OpensN enc P W m f1.type b Gb) (g2 : ∀ m, m < n → OpensN enc P W m f2.type c Gc) :
    OpensN enc P W n t (Kd.pair a (Kd.pair b c)) (fun v => Ga v.1 ∧ Gb v.2.1 ∧ Gc v.2.2) := by
  intro cs x hx
  obtain ⟨xs, m, rfl, _, hl, hxl, hf⟩ := DataW.trod_struct ht hx
  rw [hc] at hl
  obtain ⟨c0, c1, c2, rfl⟩ : ∃ c0 c1 c2, cs = [c0, c1, c2] := by
    match cs, hl with
    | [c0, c1, c2], _ => exact ⟨c0, c1, c2, rfl⟩
  have e0 := hf 0 f0 rfl
  have e1 := hf 1 f1 rfl
  have e2 := hf 2 f2 rfl
  have hxl2 : xs.length = 3 := hxl
  rw [h0.1, h0.2, List.getElem?_eq_getElem (by omega)] at e0
  rw [h1.1, h1.2, List.getElem?_eq_getElem (by omega)] at e1
  rw [h2.1, h2.2, List.getElem?_eq_getElem (by omega)] at e2
  obtain ⟨v0, k0, w0⟩ := g0 m (by omega) _ _ e0
  obtain ⟨v1, k1, w1⟩ := g1 m (by omega) _ _ e1
  obtain ⟨v2, k2, w2⟩ := g2 m (by omega) _ _ e2
  exact ⟨(v0, v1, v2), ⟨[c0], [c1, c2], rfl, k0, [c1], [c2], rfl, k1, k2⟩, w0, w1, w2⟩
theorem opens_struct4 {α β γ δ : Type} {a : Kd α} {b : Kd β} {c : Kd γ} {d : Kd δ} {Ga : α → Prop} {Gb : β → Prop} {Gc : γ → Prop} {Gd : δ → Prop} {n : Nat} {t : TypeId} {f0 f1 f2 f3 : Field} (ht : P.underlying t = some (.struct #[f0, f1, f2, f3])) (hc : P.cellsOf t = 4)
    (h0 : f0.offset = 0 ∧ P.cellsOf f0.type = 1) (h1 : f1.offset = 1 ∧ P.cellsOf f1.type = 1) (h2 : f2.offset = 2 ∧ P.cellsOf f2.type = 1) (h3 : f3.offset = 3 ∧ P.cellsOf f3.type = 1)
    (g0 : ∀ m, m < n → OpensN enc P W m f0.type a Ga) (g1 : ∀ m, m < n → OpensN enc P W m f1.type b Gb) (g2 : ∀ m, m < n → OpensN enc P W m f2.type c Gc) (g3 : ∀ m, m < n → OpensN enc P W m f3.type d Gd) :
    OpensN enc P W n t (Kd.pair a (Kd.pair b (Kd.pair c d))) (fun v => Ga v.1 ∧ Gb v.2.1 ∧ Gc v.2.2.1 ∧ Gd v.2.2.2) := by
  intro cs x hx
  obtain ⟨xs, m, rfl, _, hl, hxl, hf⟩ := DataW.trod_struct ht hx
  rw [hc] at hl
  obtain ⟨c0, c1, c2, c3, rfl⟩ : ∃ c0 c1 c2 c3, cs = [c0, c1, c2, c3] := by
    match cs, hl with
    | [c0, c1, c2, c3], _ => exact ⟨c0, c1, c2, c3, rfl⟩
  have e0 := hf 0 f0 rfl
  have e1 := hf 1 f1 rfl
  have e2 := hf 2 f2 rfl
  have e3 := hf 3 f3 rfl
  have hxl2 : xs.length = 4 := hxl
  rw [h0.1, h0.2, List.getElem?_eq_getElem (by omega)] at e0
  rw [h1.1, h1.2, List.getElem?_eq_getElem (by omega)] at e1
  rw [h2.1, h2.2, List.getElem?_eq_getElem (by omega)] at e2
  rw [h3.1, h3.2, List.getElem?_eq_getElem (by omega)] at e3
  obtain ⟨v0, k0, w0⟩ := g0 m (by omega) _ _ e0
  obtain ⟨v1, k1, w1⟩ := g1 m (by omega) _ _ e1
  obtain ⟨v2, k2, w2⟩ := g2 m (by omega) _ _ e2
  obtain ⟨v3, k3, w3⟩ := g3 m (by omega) _ _ e3
  exact ⟨(v0, v1, v2, v3), ⟨[c0], [c1, c2, c3], rfl, k0, [c1], [c2, c3], rfl, k1, [c2], [c3], rfl, k2, k3⟩, w0, w1, w2, w3⟩
/-- A slice argument. -/
theorem open_slice_arg {α : Type} {d : Kd α} {G : α → Prop} {t e : TypeId} {a : Option Addr} {len cap : Nat} {D : DataW H} {p : List MemPlace}
    (ht : P.underlying t = some (.slice e)) (hc : P.cellsOf e = d.sz) (h : ∀ n, OpensN enc P W n e d G) (hd : DataW.Trod enc P W 0 (fun _ => true) true t (.slice a len cap) D p) :
    ∃ xs : List α, len = xs.length ∧ d.C W a xs.length xs ∧ xs.length ≤ cap ∧ xs.length ≤ maxLen ∧ ∀ x ∈ xs, G x := by
  obtain ⟨fuel, hf⟩ := hd
  obtain ⟨xs, ⟨A, c, h1, h2, h3⟩, h4, h5⟩ := opens_slice (e' := 0) ht hc (fun m _ => h m) _ _ hf
  simp [Value.cells] at h1
  obtain ⟨rfl, rfl, rfl⟩ := h1
  exact ⟨xs, rfl, h3, h2, h4, h5⟩
end
end Go.Proofs.Ytnijdifoejiafaa.Open
