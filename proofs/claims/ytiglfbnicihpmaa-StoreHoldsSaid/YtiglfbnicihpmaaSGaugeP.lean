/- Walks: Add and Raise, whatever the gauges. -/
import Derived.Test.YtiglfbnicihpmaaSGaugeG
import Derived.Test.YtiglfbnicihpmaaSGaugeH
set_option linter.unusedVariables false
set_option linter.unusedSimpArgs false
namespace Go.Proofs.Ytiglfbnicihpmaa
open Go.RowKit

theorem add_any (g h : Kn) (w : World) (hg : U g.hi ∧ U h.hi) (hlo : 0 ≤ g.lo ∧ 0 ≤ h.lo) (ha : U g.a) :
    Calls Try.prog 47 #[.agg #[.int .u64 g.l, .int .u64 g.lo, .int .u64 g.hi, .int .u64 g.a], .agg #[.int .u64 h.l, .int .u64 h.lo, .int .u64 h.hi, .int .u64 h.a]] w
      fun e w' => e = .returned (addVal g h) ∧ Below w.heap.size w w' := by
  cases hb : (g.ok && h.ok) with
  | false => exact add_out g h w hb
  | true =>
    by_cases hs : g.hi + h.hi ≤ 1099511627776
    · exact add_in g h w hb hg hlo ha hs
    · exact add_over g h w hb hg hlo (by omega)
theorem refAdd_any (g h : Kn) (w : World) (hlo : 0 ≤ g.lo ∧ 0 ≤ h.lo) (ha : U g.a) :
    Calls Try.prog 52 #[.agg #[.int .u64 g.l, .int .u64 g.lo, .int .u64 g.hi, .int .u64 g.a], .agg #[.int .u64 h.l, .int .u64 h.lo, .int .u64 h.hi, .int .u64 h.a]] w
      fun e w' => e = .returned (addVal g h) ∧ Below w.heap.size w w' := by
  cases hg : g.ok with
  | false =>
    have hv : addVal g h = zeroErr := by simp [addVal, addOk, hg, zeroErr]
    rw [hv]
    exact refAdd_out1 g h w hg
  | true =>
    cases hh : h.ok with
    | false =>
      have hv : addVal g h = zeroErr := by simp [addVal, addOk, hg, hh, zeroErr]
      rw [hv]
      exact refAdd_out2 g h w hg hh
    | true =>
      by_cases hs : g.hi + h.hi ≤ 1099511627776
      · have hv : addVal g h = .tuple #[.agg #[.int .u64 (g.l + h.l), .int .u64 (g.lo + h.lo), .int .u64 (g.hi + h.hi), .int .u64 (madeA (g.lo + h.lo) (g.hi + h.hi) (orI g.a h.a))], .int .i64 0] := by
          simp [addVal, addOk, hg, hh, hs]
        rw [hv]
        exact refAdd_in g h w hg hh hlo ha hs
      · have hv : addVal g h = zeroErr := by simp [addVal, addOk, hg, hh, hs, zeroErr]
        rw [hv]
        exact refAdd_out3 g h w hg hh hlo (by omega)

theorem addVal_form (g h : Kn) : ∃ (k : Kn) (e : Int), addVal g h = .tuple #[.agg #[.int .u64 k.l, .int .u64 k.lo, .int .u64 k.hi, .int .u64 k.a], .int .i64 e] := by
  unfold addVal
  split
  · exact ⟨⟨_, _, _, _⟩, _, rfl⟩
  · exact ⟨⟨0, 0, 0, 0⟩, _, rfl⟩

theorem raise_any (g c : Kn) (w : World) (hg : U g.hi ∧ U c.hi) (hlo : 0 ≤ g.lo ∧ 0 ≤ c.lo) (ha : U g.a) :
    Calls Try.prog 28 #[.agg #[.int .u64 g.l, .int .u64 g.lo, .int .u64 g.hi, .int .u64 g.a], .agg #[.int .u64 c.l, .int .u64 c.lo, .int .u64 c.hi, .int .u64 c.a]] w
      fun e w' => e = .returned (addVal g c) ∧ Below w.heap.size w w' := by
  have hA := fun W : World => add_any g c W hg hlo ha
  obtain ⟨k, e0, hv⟩ := addVal_form g c
  rw [hv] at hA ⊢
  have HA := Lib.hid hA
  clear hA hv hg hlo ha
  go_enter Try.func28, Try.ntmps28
  go_wp2_with fail
  refine (HA.out _).mono ?_
  rintro e w1 ⟨rfl, hb⟩
  have b1 : Below w.heap.size w w1 := Below.trans (by go_grown) (Below.mono hb (by first | omega | (simp; done) | (simp; omega)))
  have z1 := Below.size hb
  try simp only [World.size_alloc, World.size_drew, World.size_setCell] at z1
  have k2 : w1.cell? ⟨w.heap.size + 1 + 1, 0, none⟩ = some (.int .u64 0) := kept hb (by first | go_cell | (with_reducible exact kept (World.below_alloc _ _) (by with_reducible assumption)))
  have f2 : w1.frozen? ⟨w.heap.size + 1 + 1, 0, none⟩ = false := keptf hb (by first | go_cell | (simp [go_sem]; done) | (with_reducible exact keptz (World.below_alloc _ _) (by with_reducible assumption) (by with_reducible assumption))) k2
  have k3 : w1.cell? ⟨w.heap.size + 1 + 1, 1, none⟩ = some (.int .u64 0) := kept hb (by first | go_cell | (with_reducible exact kept (World.below_alloc _ _) (by with_reducible assumption)))
  have f3 : w1.frozen? ⟨w.heap.size + 1 + 1, 1, none⟩ = false := keptf hb (by first | go_cell | (simp [go_sem]; done) | (with_reducible exact keptz (World.below_alloc _ _) (by with_reducible assumption) (by with_reducible assumption))) k3
  have k4 : w1.cell? ⟨w.heap.size + 1 + 1, 2, none⟩ = some (.int .u64 0) := kept hb (by first | go_cell | (with_reducible exact kept (World.below_alloc _ _) (by with_reducible assumption)))
  have f4 : w1.frozen? ⟨w.heap.size + 1 + 1, 2, none⟩ = false := keptf hb (by first | go_cell | (simp [go_sem]; done) | (with_reducible exact keptz (World.below_alloc _ _) (by with_reducible assumption) (by with_reducible assumption))) k4
  have k5 : w1.cell? ⟨w.heap.size + 1 + 1, 3, none⟩ = some (.int .u64 0) := kept hb (by first | go_cell | (with_reducible exact kept (World.below_alloc _ _) (by with_reducible assumption)))
  have f5 : w1.frozen? ⟨w.heap.size + 1 + 1, 3, none⟩ = false := keptf hb (by first | go_cell | (simp [go_sem]; done) | (with_reducible exact keptz (World.below_alloc _ _) (by with_reducible assumption) (by with_reducible assumption))) k5
  have x6 : Writ w1 (w.heap.size + 1 + 1) 4 := fun i hi => by
    rcases (by omega : i = 0 ∨ i = 1 ∨ i = 2 ∨ i = 3) with rfl | rfl | rfl | rfl
    · exact ⟨⟨_, k2⟩, f2⟩
    · exact ⟨⟨_, k3⟩, f3⟩
    · exact ⟨⟨_, k4⟩, f4⟩
    · exact ⟨⟨_, k5⟩, f5⟩
  clear hb
  go_wp2_with fail
  refine bodyPost_ret (v := .tuple #[.agg #[.int .u64 k.l, .int .u64 k.lo, .int .u64 k.hi, .int .u64 k.a], .int .i64 e0]) (by simp [results, Try.results28, go_sem, *]) rfl ?_
  exact ⟨rfl, by go_grown⟩
theorem refRaise_any (g c : Kn) (w : World) (hlo : 0 ≤ g.lo ∧ 0 ≤ c.lo) (ha : U g.a) :
    Calls Try.prog 30 #[.agg #[.int .u64 g.l, .int .u64 g.lo, .int .u64 g.hi, .int .u64 g.a], .agg #[.int .u64 c.l, .int .u64 c.lo, .int .u64 c.hi, .int .u64 c.a]] w
      fun e w' => e = .returned (addVal g c) ∧ Below w.heap.size w w' := by
  have hA := fun W : World => refAdd_any g c W hlo ha
  obtain ⟨k, e0, hv⟩ := addVal_form g c
  rw [hv] at hA ⊢
  have HA := Lib.hid hA
  clear hA hv hlo ha
  go_enter Try.func30, Try.ntmps30
  go_wp2_with fail
  refine (HA.out _).mono ?_
  rintro e w1 ⟨rfl, hb⟩
  have b8 : Below w.heap.size w w1 := Below.trans (by go_grown) (Below.mono hb (by first | omega | (simp; done) | (simp; omega)))
  have z8 := Below.size hb
  try simp only [World.size_alloc, World.size_drew, World.size_setCell] at z8
  have k9 : w1.cell? ⟨w.heap.size + 1 + 1, 0, none⟩ = some (.int .u64 0) := kept hb (by first | go_cell | (with_reducible exact kept (World.below_alloc _ _) (by with_reducible assumption)))
  have f9 : w1.frozen? ⟨w.heap.size + 1 + 1, 0, none⟩ = false := keptf hb (by first | go_cell | (simp [go_sem]; done) | (with_reducible exact keptz (World.below_alloc _ _) (by with_reducible assumption) (by with_reducible assumption))) k9
  have k10 : w1.cell? ⟨w.heap.size + 1 + 1, 1, none⟩ = some (.int .u64 0) := kept hb (by first | go_cell | (with_reducible exact kept (World.below_alloc _ _) (by with_reducible assumption)))
  have f10 : w1.frozen? ⟨w.heap.size + 1 + 1, 1, none⟩ = false := keptf hb (by first | go_cell | (simp [go_sem]; done) | (with_reducible exact keptz (World.below_alloc _ _) (by with_reducible assumption) (by with_reducible assumption))) k10
  have k11 : w1.cell? ⟨w.heap.size + 1 + 1, 2, none⟩ = some (.int .u64 0) := kept hb (by first | go_cell | (with_reducible exact kept (World.below_alloc _ _) (by with_reducible assumption)))
  have f11 : w1.frozen? ⟨w.heap.size + 1 + 1, 2, none⟩ = false := keptf hb (by first | go_cell | (simp [go_sem]; done) | (with_reducible exact keptz (World.below_alloc _ _) (by with_reducible assumption) (by with_reducible assumption))) k11
  have k12 : w1.cell? ⟨w.heap.size + 1 + 1, 3, none⟩ = some (.int .u64 0) := kept hb (by first | go_cell | (with_reducible exact kept (World.below_alloc _ _) (by with_reducible assumption)))
  have f12 : w1.frozen? ⟨w.heap.size + 1 + 1, 3, none⟩ = false := keptf hb (by first | go_cell | (simp [go_sem]; done) | (with_reducible exact keptz (World.below_alloc _ _) (by with_reducible assumption) (by with_reducible assumption))) k12
  have x13 : Writ w1 (w.heap.size + 1 + 1) 4 := fun i hi => by
    rcases (by omega : i = 0 ∨ i = 1 ∨ i = 2 ∨ i = 3) with rfl | rfl | rfl | rfl
    · exact ⟨⟨_, k9⟩, f9⟩
    · exact ⟨⟨_, k10⟩, f10⟩
    · exact ⟨⟨_, k11⟩, f11⟩
    · exact ⟨⟨_, k12⟩, f12⟩
  clear hb
  go_wp2_with fail
  refine bodyPost_ret (v := .tuple #[.agg #[.int .u64 k.l, .int .u64 k.lo, .int .u64 k.hi, .int .u64 k.a], .int .i64 e0]) (by simp [results, Try.results30, go_sem, *]) rfl ?_
  exact ⟨rfl, by go_grown⟩
end Go.Proofs.Ytiglfbnicihpmaa
