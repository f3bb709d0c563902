/- How slices of plain things are opened. No program of its own. No condition. -/
import Derived.Test.YtcfomhnfhalmaaaLaw
import Derived.Test.YtcfomhnfhalmaaaSl
import Derived.Deep.Slices
set_option linter.unusedVariables false
set_option linter.unusedSimpArgs false
namespace Go.Proofs.Ytcfomhnfhalmaaa
open Go.RowKit Go.ChangeShapes Go.WideShapes Go.ChangeAt

section
variable {H : Type} {enc : TypeId × Value → H} {P : Program} {w : World} {base : Nat} {sp : Nat → Bool} {held : Bool}
theorem choose_list {α : Type} {n : Nat} {p : Nat → α → Prop} (h : ∀ i, i < n → ∃ x, p i x) : ∃ l : List α, l.length = n ∧ ∀ i x, l[i]? = some x → p i x := by
  induction n with
  | zero => exact ⟨[], rfl, fun i x hx => by simp at hx⟩
  | succ n ih =>
    obtain ⟨l, hl, hp⟩ := ih fun i hi => h i (by omega)
    obtain ⟨x, hx⟩ := h n (by omega)
    refine ⟨l ++ [x], by simp [hl], fun i y hy => ?_⟩
    by_cases hi : i < n
    · rw [List.getElem?_append_left (by omega)] at hy; exact hp i y hy
    · have : i < (l ++ [x]).length := (List.getElem?_eq_some_iff.1 hy).1
      obtain rfl : i = n := by simp [hl] at this; omega
      rw [List.getElem?_append_right (by omega)] at hy
      simp [hl] at hy; subst hy; exact hx
theorem flatten_at {n : Nat} : ∀ (L : List (List Value)), (∀ u ∈ L, u.length = n) → ∀ (j : Nat) (v : Value), L.flatten[j]? = some v → ∃ i k u, j = i * n + k ∧ k < n ∧ L[i]? = some u ∧ u[k]? = some v
  | [], _, j, v, h => by simp at h
  | u :: L, hL, j, v, h => by
    have hu : u.length = n := hL u (by simp)
    rw [List.flatten_cons] at h
    by_cases hj : j < u.length
    · rw [List.getElem?_append_left hj] at h
      exact ⟨0, j, u, by omega, by omega, rfl, h⟩
    · rw [List.getElem?_append_right (by omega)] at h
      obtain ⟨i, k, u', e, hk, h1, h2⟩ := flatten_at L (fun u hu => hL u (by simp [hu])) _ v h
      exact ⟨i + 1, k, u', by rw [Nat.succ_mul]; omega, hk, by simpa using h1, h2⟩
theorem open_sl {r : Reach} {b0 : Nat} {t e : TypeId} {v : Value} {d : DataW H} {p : List MemPlace} {a : List (Option IntKind)} (n : Nat) (ht : P.underlying t = some (.slice e)) (ha : flatK P n e = some a) (hc : a.length = P.cellsOf e) (hpos : 0 < a.length)
    (hv : Value.okWide P w r b0 t v) (h : DataW.Trod enc P w base sp held t v d p) :
    ∃ (A : Option Addr) (len cap : Nat) (L : List (List Value)), v = .slice A len cap ∧ len ≤ cap ∧ L.length = len ∧ (∀ u ∈ L, Leaves a u) ∧ SlAt w A L.flatten ∧ (A = none → len = 0 ∧ cap = 0) := by
  obtain ⟨fuel, hf⟩ := h
  obtain ⟨A, len, cap, rfl⟩ := okWide_slice ht hv
  rcases Go.Deep.open_slice ht hf with ⟨h0, _⟩ | ⟨ad, len', cap', m, k, D, Pl, h0, _, hl, _, hm, _, hx⟩
  · simp only [Value.cells, List.cons.injEq, Value.slice.injEq, and_true] at h0
    obtain ⟨rfl, rfl, rfl⟩ := h0
    exact ⟨none, 0, 0, [], rfl, Nat.le_refl _, rfl, fun u hu => by simp at hu, .inl rfl, fun _ => ⟨rfl, rfl⟩⟩
  · have h0' : A = some ad ∧ len = len' ∧ cap = cap' := by
      have := congrArg List.head? h0
      simpa [Value.cells] using this
    obtain ⟨rfl, rfl, rfl⟩ := h0'
    have hmn : len ≤ m := by rw [hm]; split <;> omega
    obtain ⟨L, hL, hp⟩ := choose_list (n := len) (p := fun i (cs' : List Value) => w.cells? base (ad.add (i * P.cellsOf e)) (P.cellsOf e) = some cs' ∧ DataW.trod enc P w base sp held k e cs' = some (D i, Pl i)) (fun i hi => hx i (by omega))
    have hleaf : ∀ u ∈ L, Leaves a u := fun u hu => by
      obtain ⟨i, hi⟩ := List.getElem?_of_mem hu
      exact (flat_open n e a k u _ ha (hp i u hi).2).1
    refine ⟨_, len, cap, L, rfl, hl, hL, hleaf, ?_, fun h => by cases h⟩
    have hcell : ∀ (j : Nat) (v : Value), L.flatten[j]? = some v → w.cell? (ad.add j) = some v := fun j v hj => by
      obtain ⟨i, q, u, rfl, hq, h1, h2⟩ := flatten_at (n := a.length) L (fun u hu => (hleaf u hu).len) j v hj
      obtain ⟨_, _, h3⟩ := World.cells?_some (hp i u h1).1
      have h4 := h3 q (by omega)
      rw [Go.Deep.add_add, ← hc, h2] at h4
      exact h4
    by_cases hz : L.flatten = []
    · exact .inl hz
    · obtain ⟨v, r, hv⟩ := List.exists_cons_of_ne_nil hz
      have h5 := hcell 0 v (by rw [hv]; rfl)
      have hs : ad.spot = none := by simpa [Addr.add] using World.cell?_spot h5
      obtain ⟨b, off, spot⟩ := ad
      obtain rfl : spot = none := hs
      refine .inr ⟨b, off, rfl, ?_, fun j u hu => by rw [← Addr.add_lit]; exact hcell j u hu⟩
      have := World.block_lt_of_cell? w _ h5
      rw [Addr.add_lit] at this
      exact this
end
end Go.Proofs.Ytcfomhnfhalmaaa
