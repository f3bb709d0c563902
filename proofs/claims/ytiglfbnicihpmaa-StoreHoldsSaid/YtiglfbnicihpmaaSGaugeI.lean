/- Walks of package gauge: Lower, Take. -/
import Derived.Test.YtiglfbnicihpmaaSGaugeE
import Derived.WalkMore
import Derived.ScopeJumps
set_option linter.unusedVariables false
set_option linter.unusedSimpArgs false
namespace Go.Proofs.Ytiglfbnicihpmaa
open Go.RowKit

set_option maxHeartbeats 1000000 in
theorem lower_in (g c : Kn) (w : World) (hb : (g.ok && c.ok) = true) (hlo : 0 ≤ g.lo ∧ 0 ≤ c.lo) (ha : U g.a) (hs : c.l ≤ g.l) :
    Calls Try.prog 29 #[.agg #[.int .u64 g.l, .int .u64 g.lo, .int .u64 g.hi, .int .u64 g.a], .agg #[.int .u64 c.l, .int .u64 c.lo, .int .u64 c.hi, .int .u64 c.a]] w
      fun e w' => e = .returned (.tuple #[.agg #[.int .u64 (g.l - c.l), .int .u64 (g.lo - min g.lo c.hi), .int .u64 (g.hi - c.lo), .int .u64 (madeA (g.lo - min g.lo c.hi) (g.hi - c.lo) (orI g.a c.a))], .int .i64 0]) ∧ Below w.heap.size w w' := by
  have hck : ∀ (b : Nat) (W : World), W.cell? ⟨b, 0, none⟩ = some (.int .u64 c.l) → W.cell? ⟨b, 1, none⟩ = some (.int .u64 c.lo) → W.cell? ⟨b, 2, none⟩ = some (.int .u64 c.hi) → W.cell? ⟨b, 3, none⟩ = some (.int .u64 c.a) → Calls Try.prog 48 #[.agg #[.int .u64 g.l, .int .u64 g.lo, .int .u64 g.hi, .int .u64 g.a], .slice (some ⟨b, 0, none⟩) 1 1] W fun e w' => e = .returned (.int .i64 0) ∧ Below W.heap.size W w' := fun b W h0 h1 h2 h3 => by
    have h := check_one g c b W h0 h1 h2 h3
    rw [hb] at h
    exact h
  have HCK := Lib.hid hck
  clear hck
  have gr := (oG_right _ _ _ _).1 (Bool.and_eq_true _ _ ▸ hb).1
  have cr := (oG_right _ _ _ _).1 (Bool.and_eq_true _ _ ▸ hb).2
  have e0 : g.l - min g.l c.l = g.l - c.l := by omega
  have e1 : g.lo - min g.lo c.hi = g.lo - min g.lo c.hi := by omega
  have e2 : g.hi - min g.hi c.lo = g.hi - c.lo := by omega
  have hmi := fun W : World => minus_any g.l g.lo g.hi c.l c.lo c.hi W ⟨by omega, by omega⟩ ⟨by omega, by omega⟩ ⟨by omega, by omega⟩ (by omega) (by omega) (by omega)
  rw [e0, e1, e2] at hmi
  have HO := Lib.hid fun W : World => both_minus g.l g.lo g.hi g.a c.l c.lo c.hi c.a _ _ _ W ha hmi
  clear hmi e0 e1 e2 gr cr hb
  go_enter Try.func29, Try.ntmps29
  go_wp2_with fail
  refine (HCK.out _ _ (by go_cell) (by go_cell) (by go_cell) (by go_cell)).mono ?_
  rintro e w1 ⟨rfl, hb1⟩
  have b1 : Below w.heap.size w w1 := Below.trans (by go_grown) (Below.mono hb1 (by first | omega | (simp; done) | (simp; omega)))
  have z1 := Below.size hb1
  try simp only [World.size_alloc, World.size_drew, World.size_setCell] at z1
  have k2 : w1.cell? ⟨w.heap.size, 0, none⟩ = some (.int .u64 g.l) := kept hb1 (by first | go_cell | (with_reducible exact kept (World.below_alloc _ _) (by with_reducible assumption)))
  have k3 : w1.cell? ⟨w.heap.size, 1, none⟩ = some (.int .u64 g.lo) := kept hb1 (by first | go_cell | (with_reducible exact kept (World.below_alloc _ _) (by with_reducible assumption)))
  have k4 : w1.cell? ⟨w.heap.size, 2, none⟩ = some (.int .u64 g.hi) := kept hb1 (by first | go_cell | (with_reducible exact kept (World.below_alloc _ _) (by with_reducible assumption)))
  have k5 : w1.cell? ⟨w.heap.size, 3, none⟩ = some (.int .u64 g.a) := kept hb1 (by first | go_cell | (with_reducible exact kept (World.below_alloc _ _) (by with_reducible assumption)))
  have k7 : w1.cell? ⟨w.heap.size + 1, 0, none⟩ = some (.int .u64 c.l) := kept hb1 (by first | go_cell | (with_reducible exact kept (World.below_alloc _ _) (by with_reducible assumption)))
  have k8 : w1.cell? ⟨w.heap.size + 1, 1, none⟩ = some (.int .u64 c.lo) := kept hb1 (by first | go_cell | (with_reducible exact kept (World.below_alloc _ _) (by with_reducible assumption)))
  have k9 : w1.cell? ⟨w.heap.size + 1, 2, none⟩ = some (.int .u64 c.hi) := kept hb1 (by first | go_cell | (with_reducible exact kept (World.below_alloc _ _) (by with_reducible assumption)))
  have k10 : w1.cell? ⟨w.heap.size + 1, 3, none⟩ = some (.int .u64 c.a) := kept hb1 (by first | go_cell | (with_reducible exact kept (World.below_alloc _ _) (by with_reducible assumption)))
  have k12 : w1.cell? ⟨w.heap.size + 1 + 1, 0, none⟩ = some (.int .u64 0) := kept hb1 (by first | go_cell | (with_reducible exact kept (World.below_alloc _ _) (by with_reducible assumption)))
  have f12 : w1.frozen? ⟨w.heap.size + 1 + 1, 0, none⟩ = false := keptf hb1 (by first | go_cell | (simp [go_sem]; done) | (with_reducible exact keptz (World.below_alloc _ _) (by with_reducible assumption) (by with_reducible assumption))) k12
  have k13 : w1.cell? ⟨w.heap.size + 1 + 1, 1, none⟩ = some (.int .u64 0) := kept hb1 (by first | go_cell | (with_reducible exact kept (World.below_alloc _ _) (by with_reducible assumption)))
  have f13 : w1.frozen? ⟨w.heap.size + 1 + 1, 1, none⟩ = false := keptf hb1 (by first | go_cell | (simp [go_sem]; done) | (with_reducible exact keptz (World.below_alloc _ _) (by with_reducible assumption) (by with_reducible assumption))) k13
  have k14 : w1.cell? ⟨w.heap.size + 1 + 1, 2, none⟩ = some (.int .u64 0) := kept hb1 (by first | go_cell | (with_reducible exact kept (World.below_alloc _ _) (by with_reducible assumption)))
  have f14 : w1.frozen? ⟨w.heap.size + 1 + 1, 2, none⟩ = false := keptf hb1 (by first | go_cell | (simp [go_sem]; done) | (with_reducible exact keptz (World.below_alloc _ _) (by with_reducible assumption) (by with_reducible assumption))) k14
  have k15 : w1.cell? ⟨w.heap.size + 1 + 1, 3, none⟩ = some (.int .u64 0) := kept hb1 (by first | go_cell | (with_reducible exact kept (World.below_alloc _ _) (by with_reducible assumption)))
  have f15 : w1.frozen? ⟨w.heap.size + 1 + 1, 3, none⟩ = false := keptf hb1 (by first | go_cell | (simp [go_sem]; done) | (with_reducible exact keptz (World.below_alloc _ _) (by with_reducible assumption) (by with_reducible assumption))) k15
  have x16 : Writ w1 (w.heap.size + 1 + 1) 4 := fun i hi => by
    rcases (by omega : i = 0 ∨ i = 1 ∨ i = 2 ∨ i = 3) with rfl | rfl | rfl | rfl
    · exact ⟨⟨_, k12⟩, f12⟩
    · exact ⟨⟨_, k13⟩, f13⟩
    · exact ⟨⟨_, k14⟩, f14⟩
    · exact ⟨⟨_, k15⟩, f15⟩
  clear hb1 HCK
  go_wp2_with fail
  have k18 : (w1).cell? ⟨w.heap.size, 0, none⟩ = some (.int .u64 g.l) := by first | go_cell | (with_reducible exact kept (World.below_alloc _ _) (by with_reducible assumption)) | (simp [*, World.cell?_alloc_some]; done)
  have k19 : (w1).cell? ⟨w.heap.size, 1, none⟩ = some (.int .u64 g.lo) := by first | go_cell | (with_reducible exact kept (World.below_alloc _ _) (by with_reducible assumption)) | (simp [*, World.cell?_alloc_some]; done)
  have k20 : (w1).cell? ⟨w.heap.size, 2, none⟩ = some (.int .u64 g.hi) := by first | go_cell | (with_reducible exact kept (World.below_alloc _ _) (by with_reducible assumption)) | (simp [*, World.cell?_alloc_some]; done)
  have k21 : (w1).cell? ⟨w.heap.size, 3, none⟩ = some (.int .u64 g.a) := by first | go_cell | (with_reducible exact kept (World.below_alloc _ _) (by with_reducible assumption)) | (simp [*, World.cell?_alloc_some]; done)
  have k22 : (w1).cell? ⟨w.heap.size + 1, 0, none⟩ = some (.int .u64 c.l) := by first | go_cell | (with_reducible exact kept (World.below_alloc _ _) (by with_reducible assumption)) | (simp [*, World.cell?_alloc_some]; done)
  have k23 : (w1).cell? ⟨w.heap.size + 1, 1, none⟩ = some (.int .u64 c.lo) := by first | go_cell | (with_reducible exact kept (World.below_alloc _ _) (by with_reducible assumption)) | (simp [*, World.cell?_alloc_some]; done)
  have k24 : (w1).cell? ⟨w.heap.size + 1, 2, none⟩ = some (.int .u64 c.hi) := by first | go_cell | (with_reducible exact kept (World.below_alloc _ _) (by with_reducible assumption)) | (simp [*, World.cell?_alloc_some]; done)
  have k25 : (w1).cell? ⟨w.heap.size + 1, 3, none⟩ = some (.int .u64 c.a) := by first | go_cell | (with_reducible exact kept (World.below_alloc _ _) (by with_reducible assumption)) | (simp [*, World.cell?_alloc_some]; done)
  have x26 : Writ (w1) (w.heap.size + 1 + 1) 4 := by first | assumption | (exact Writ.kept (by assumption) (World.below_alloc _ _)) | (exact Writ.drew (by assumption)) | (exact writ_at _ _ _ _ _ (by simp) (by simp)) | (exact Writ.kept (writ_at _ _ _ _ _ (by simp) (by simp)) (World.below_alloc _ _)) | (exact Writ.kept (Writ.kept (writ_at _ _ _ _ _ (by simp) (by simp)) (World.below_alloc _ _)) (World.below_alloc _ _))
  have b27 : Below w.heap.size w (w1) := by go_grown
  have z27 := Below.size b27
  first | go_region_held3 (fun W => W.cell? ⟨w.heap.size, 0, none⟩ = some (.int .u64 g.l) ∧ W.cell? ⟨w.heap.size, 1, none⟩ = some (.int .u64 g.lo) ∧ W.cell? ⟨w.heap.size, 2, none⟩ = some (.int .u64 g.hi) ∧ W.cell? ⟨w.heap.size, 3, none⟩ = some (.int .u64 g.a) ∧ W.cell? ⟨w.heap.size + 1, 0, none⟩ = some (.int .u64 c.l) ∧ W.cell? ⟨w.heap.size + 1, 1, none⟩ = some (.int .u64 c.lo) ∧ W.cell? ⟨w.heap.size + 1, 2, none⟩ = some (.int .u64 c.hi) ∧ W.cell? ⟨w.heap.size + 1, 3, none⟩ = some (.int .u64 c.a) ∧ Writ W (w.heap.size + 1 + 1) 4 ∧ Below w.heap.size w W ∧ w.heap.size ≤ W.heap.size ∧ w1.heap.size ≤ W.heap.size)
      ((go_split_ands; refine ⟨?_, ?_, ?_, ?_, ?_, ?_, ?_, ?_, ?_, ?_, ?_, ?_⟩ <;> first | (with_reducible assumption) | (with_reducible exact kept hb2 (by first | (with_reducible assumption) | (with_reducible exact drewc (by with_reducible assumption)))) | (with_reducible exact Writ.kept (by first | (with_reducible assumption) | (with_reducible exact Writ.drew (by with_reducible assumption))) hb2) | (with_reducible exact drewc (by with_reducible assumption)) | (with_reducible exact Writ.drew (by with_reducible assumption)) | (with_reducible exact kept (World.below_alloc _ _) (by first | (with_reducible assumption) | (with_reducible exact drewc (by with_reducible assumption)))) | (with_reducible exact Writ.kept (by first | (with_reducible assumption) | (with_reducible exact Writ.drew (by with_reducible assumption))) (World.below_alloc _ _)) | (with_reducible exact drewc (kept (World.below_alloc _ _) (by with_reducible assumption))) | (with_reducible exact Writ.drew (Writ.kept (by with_reducible assumption) (World.below_alloc _ _))) | (with_reducible refine Below.trans ?_ (Below.mono hb2 ?_) <;> first | (go_grown; done) | (exact Below.size (B := w.heap.size) (by go_grown)) | omega) | ((repeat (with_reducible refine far ?_ (by first | (simp; done) | omega | (simp; omega)))); first | (with_reducible assumption) | (with_reducible exact kept hb2 (by first | (with_reducible assumption) | (with_reducible exact drewc (by with_reducible assumption))))) | ((repeat (with_reducible refine Writ.set ?_ _ _)); with_reducible assumption) | (go_grown; done) | omega | (simp only [World.size_alloc, World.size_drew, World.size_setCell]; omega)))
      (first | (go_at_call 50; refine (ofCost_any _ _ _ _ _).mono ?_; rintro e w2 ⟨rfl, hb2⟩; have hz2 := Below.size hb2; (try simp only [World.size_alloc, World.size_drew, World.size_setCell] at hz2)) | (go_at_call 49; go_split_ands; refine (HO.out _).mono ?_; rintro e w2 ⟨rfl, hb2⟩; have hz2 := Below.size hb2; (try simp only [World.size_alloc, World.size_drew, World.size_setCell] at hz2); have y28 := Writ.kept (r := w.heap.size + 1 + 1) (n := 4) (by assumption) hb2; obtain ⟨⟨u28x0, c28x0⟩, f28x0⟩ := y28 0 (by omega); obtain ⟨⟨u28x1, c28x1⟩, f28x1⟩ := y28 1 (by omega); obtain ⟨⟨u28x2, c28x2⟩, f28x2⟩ := y28 2 (by omega); obtain ⟨⟨u28x3, c28x3⟩, f28x3⟩ := y28 3 (by omega))) | fail
  all_goals (go_split_ands; clear HO; go_wp2_with fail)
  
  all_goals (refine bodyPost_ret (v := .tuple #[.agg #[.int .u64 (g.l - c.l), .int .u64 (g.lo - min g.lo c.hi), .int .u64 (g.hi - c.lo), .int .u64 (madeA (g.lo - min g.lo c.hi) (g.hi - c.lo) (orI g.a c.a))], .int .i64 0]) (by simp [results, Try.results29, go_sem, *]) rfl ?_)
  all_goals exact ⟨rfl, by with_reducible assumption⟩
set_option maxHeartbeats 1000000 in
theorem lower_less (g c : Kn) (w : World) (hb : (g.ok && c.ok) = true) (hs : g.l < c.l) :
    Calls Try.prog 29 #[.agg #[.int .u64 g.l, .int .u64 g.lo, .int .u64 g.hi, .int .u64 g.a], .agg #[.int .u64 c.l, .int .u64 c.lo, .int .u64 c.hi, .int .u64 c.a]] w
      fun e w' => e = .returned (.tuple #[.agg #[.int .u64 0, .int .u64 0, .int .u64 0, .int .u64 0], .int .i64 2]) ∧ Below w.heap.size w w' := by
  have hck : ∀ (b : Nat) (W : World), W.cell? ⟨b, 0, none⟩ = some (.int .u64 c.l) → W.cell? ⟨b, 1, none⟩ = some (.int .u64 c.lo) → W.cell? ⟨b, 2, none⟩ = some (.int .u64 c.hi) → W.cell? ⟨b, 3, none⟩ = some (.int .u64 c.a) → Calls Try.prog 48 #[.agg #[.int .u64 g.l, .int .u64 g.lo, .int .u64 g.hi, .int .u64 g.a], .slice (some ⟨b, 0, none⟩) 1 1] W fun e w' => e = .returned (.int .i64 0) ∧ Below W.heap.size W w' := fun b W h0 h1 h2 h3 => by
    have h := check_one g c b W h0 h1 h2 h3
    rw [hb] at h
    exact h
  have HCK := Lib.hid hck
  clear hck
  clear hb
  go_enter Try.func29, Try.ntmps29
  go_wp2_with fail
  refine (HCK.out _ _ (by go_cell) (by go_cell) (by go_cell) (by go_cell)).mono ?_
  rintro e w1 ⟨rfl, hb1⟩
  have b29 : Below w.heap.size w w1 := Below.trans (by go_grown) (Below.mono hb1 (by first | omega | (simp; done) | (simp; omega)))
  have z29 := Below.size hb1
  try simp only [World.size_alloc, World.size_drew, World.size_setCell] at z29
  have k30 : w1.cell? ⟨w.heap.size, 0, none⟩ = some (.int .u64 g.l) := kept hb1 (by first | go_cell | (with_reducible exact kept (World.below_alloc _ _) (by with_reducible assumption)))
  have k31 : w1.cell? ⟨w.heap.size, 1, none⟩ = some (.int .u64 g.lo) := kept hb1 (by first | go_cell | (with_reducible exact kept (World.below_alloc _ _) (by with_reducible assumption)))
  have k32 : w1.cell? ⟨w.heap.size, 2, none⟩ = some (.int .u64 g.hi) := kept hb1 (by first | go_cell | (with_reducible exact kept (World.below_alloc _ _) (by with_reducible assumption)))
  have k33 : w1.cell? ⟨w.heap.size, 3, none⟩ = some (.int .u64 g.a) := kept hb1 (by first | go_cell | (with_reducible exact kept (World.below_alloc _ _) (by with_reducible assumption)))
  have k35 : w1.cell? ⟨w.heap.size + 1, 0, none⟩ = some (.int .u64 c.l) := kept hb1 (by first | go_cell | (with_reducible exact kept (World.below_alloc _ _) (by with_reducible assumption)))
  have k36 : w1.cell? ⟨w.heap.size + 1, 1, none⟩ = some (.int .u64 c.lo) := kept hb1 (by first | go_cell | (with_reducible exact kept (World.below_alloc _ _) (by with_reducible assumption)))
  have k37 : w1.cell? ⟨w.heap.size + 1, 2, none⟩ = some (.int .u64 c.hi) := kept hb1 (by first | go_cell | (with_reducible exact kept (World.below_alloc _ _) (by with_reducible assumption)))
  have k38 : w1.cell? ⟨w.heap.size + 1, 3, none⟩ = some (.int .u64 c.a) := kept hb1 (by first | go_cell | (with_reducible exact kept (World.below_alloc _ _) (by with_reducible assumption)))
  have k40 : w1.cell? ⟨w.heap.size + 1 + 1, 0, none⟩ = some (.int .u64 0) := kept hb1 (by first | go_cell | (with_reducible exact kept (World.below_alloc _ _) (by with_reducible assumption)))
  have f40 : w1.frozen? ⟨w.heap.size + 1 + 1, 0, none⟩ = false := keptf hb1 (by first | go_cell | (simp [go_sem]; done) | (with_reducible exact keptz (World.below_alloc _ _) (by with_reducible assumption) (by with_reducible assumption))) k40
  have k41 : w1.cell? ⟨w.heap.size + 1 + 1, 1, none⟩ = some (.int .u64 0) := kept hb1 (by first | go_cell | (with_reducible exact kept (World.below_alloc _ _) (by with_reducible assumption)))
  have f41 : w1.frozen? ⟨w.heap.size + 1 + 1, 1, none⟩ = false := keptf hb1 (by first | go_cell | (simp [go_sem]; done) | (with_reducible exact keptz (World.below_alloc _ _) (by with_reducible assumption) (by with_reducible assumption))) k41
  have k42 : w1.cell? ⟨w.heap.size + 1 + 1, 2, none⟩ = some (.int .u64 0) := kept hb1 (by first | go_cell | (with_reducible exact kept (World.below_alloc _ _) (by with_reducible assumption)))
  have f42 : w1.frozen? ⟨w.heap.size + 1 + 1, 2, none⟩ = false := keptf hb1 (by first | go_cell | (simp [go_sem]; done) | (with_reducible exact keptz (World.below_alloc _ _) (by with_reducible assumption) (by with_reducible assumption))) k42
  have k43 : w1.cell? ⟨w.heap.size + 1 + 1, 3, none⟩ = some (.int .u64 0) := kept hb1 (by first | go_cell | (with_reducible exact kept (World.below_alloc _ _) (by with_reducible assumption)))
  have f43 : w1.frozen? ⟨w.heap.size + 1 + 1, 3, none⟩ = false := keptf hb1 (by first | go_cell | (simp [go_sem]; done) | (with_reducible exact keptz (World.below_alloc _ _) (by with_reducible assumption) (by with_reducible assumption))) k43
  have x44 : Writ w1 (w.heap.size + 1 + 1) 4 := fun i hi => by
    rcases (by omega : i = 0 ∨ i = 1 ∨ i = 2 ∨ i = 3) with rfl | rfl | rfl | rfl
    · exact ⟨⟨_, k40⟩, f40⟩
    · exact ⟨⟨_, k41⟩, f41⟩
    · exact ⟨⟨_, k42⟩, f42⟩
    · exact ⟨⟨_, k43⟩, f43⟩
  clear hb1 HCK
  go_wp2_with fail
  refine bodyPost_ret (v := .tuple #[.agg #[.int .u64 0, .int .u64 0, .int .u64 0, .int .u64 0], .int .i64 2]) (by simp [results, Try.results29, go_sem, *]) rfl ?_
  exact ⟨rfl, by go_grown⟩
set_option maxHeartbeats 1000000 in
theorem lower_bad (g c : Kn) (w : World) (hb : (g.ok && c.ok) = false) :
    Calls Try.prog 29 #[.agg #[.int .u64 g.l, .int .u64 g.lo, .int .u64 g.hi, .int .u64 g.a], .agg #[.int .u64 c.l, .int .u64 c.lo, .int .u64 c.hi, .int .u64 c.a]] w
      fun e w' => e = .returned (.tuple #[.agg #[.int .u64 0, .int .u64 0, .int .u64 0, .int .u64 0], .int .i64 2]) ∧ Below w.heap.size w w' := by
  have hck : ∀ (b : Nat) (W : World), W.cell? ⟨b, 0, none⟩ = some (.int .u64 c.l) → W.cell? ⟨b, 1, none⟩ = some (.int .u64 c.lo) → W.cell? ⟨b, 2, none⟩ = some (.int .u64 c.hi) → W.cell? ⟨b, 3, none⟩ = some (.int .u64 c.a) → Calls Try.prog 48 #[.agg #[.int .u64 g.l, .int .u64 g.lo, .int .u64 g.hi, .int .u64 g.a], .slice (some ⟨b, 0, none⟩) 1 1] W fun e w' => e = .returned (.int .i64 2) ∧ Below W.heap.size W w' := fun b W h0 h1 h2 h3 => by
    have h := check_one g c b W h0 h1 h2 h3
    rw [hb] at h
    exact h
  have HCK := Lib.hid hck
  clear hck
  clear hb
  go_enter Try.func29, Try.ntmps29
  go_wp2_with fail
  refine (HCK.out _ _ (by go_cell) (by go_cell) (by go_cell) (by go_cell)).mono ?_
  rintro e w1 ⟨rfl, hb1⟩
  have b46 : Below w.heap.size w w1 := Below.trans (by go_grown) (Below.mono hb1 (by first | omega | (simp; done) | (simp; omega)))
  have z46 := Below.size hb1
  try simp only [World.size_alloc, World.size_drew, World.size_setCell] at z46
  have k47 : w1.cell? ⟨w.heap.size, 0, none⟩ = some (.int .u64 g.l) := kept hb1 (by first | go_cell | (with_reducible exact kept (World.below_alloc _ _) (by with_reducible assumption)))
  have k48 : w1.cell? ⟨w.heap.size, 1, none⟩ = some (.int .u64 g.lo) := kept hb1 (by first | go_cell | (with_reducible exact kept (World.below_alloc _ _) (by with_reducible assumption)))
  have k49 : w1.cell? ⟨w.heap.size, 2, none⟩ = some (.int .u64 g.hi) := kept hb1 (by first | go_cell | (with_reducible exact kept (World.below_alloc _ _) (by with_reducible assumption)))
  have k50 : w1.cell? ⟨w.heap.size, 3, none⟩ = some (.int .u64 g.a) := kept hb1 (by first | go_cell | (with_reducible exact kept (World.below_alloc _ _) (by with_reducible assumption)))
  have k52 : w1.cell? ⟨w.heap.size + 1, 0, none⟩ = some (.int .u64 c.l) := kept hb1 (by first | go_cell | (with_reducible exact kept (World.below_alloc _ _) (by with_reducible assumption)))
  have k53 : w1.cell? ⟨w.heap.size + 1, 1, none⟩ = some (.int .u64 c.lo) := kept hb1 (by first | go_cell | (with_reducible exact kept (World.below_alloc _ _) (by with_reducible assumption)))
  have k54 : w1.cell? ⟨w.heap.size + 1, 2, none⟩ = some (.int .u64 c.hi) := kept hb1 (by first | go_cell | (with_reducible exact kept (World.below_alloc _ _) (by with_reducible assumption)))
  have k55 : w1.cell? ⟨w.heap.size + 1, 3, none⟩ = some (.int .u64 c.a) := kept hb1 (by first | go_cell | (with_reducible exact kept (World.below_alloc _ _) (by with_reducible assumption)))
  have k57 : w1.cell? ⟨w.heap.size + 1 + 1, 0, none⟩ = some (.int .u64 0) := kept hb1 (by first | go_cell | (with_reducible exact kept (World.below_alloc _ _) (by with_reducible assumption)))
  have f57 : w1.frozen? ⟨w.heap.size + 1 + 1, 0, none⟩ = false := keptf hb1 (by first | go_cell | (simp [go_sem]; done) | (with_reducible exact keptz (World.below_alloc _ _) (by with_reducible assumption) (by with_reducible assumption))) k57
  have k58 : w1.cell? ⟨w.heap.size + 1 + 1, 1, none⟩ = some (.int .u64 0) := kept hb1 (by first | go_cell | (with_reducible exact kept (World.below_alloc _ _) (by with_reducible assumption)))
  have f58 : w1.frozen? ⟨w.heap.size + 1 + 1, 1, none⟩ = false := keptf hb1 (by first | go_cell | (simp [go_sem]; done) | (with_reducible exact keptz (World.below_alloc _ _) (by with_reducible assumption) (by with_reducible assumption))) k58
  have k59 : w1.cell? ⟨w.heap.size + 1 + 1, 2, none⟩ = some (.int .u64 0) := kept hb1 (by first | go_cell | (with_reducible exact kept (World.below_alloc _ _) (by with_reducible assumption)))
  have f59 : w1.frozen? ⟨w.heap.size + 1 + 1, 2, none⟩ = false := keptf hb1 (by first | go_cell | (simp [go_sem]; done) | (with_reducible exact keptz (World.below_alloc _ _) (by with_reducible assumption) (by with_reducible assumption))) k59
  have k60 : w1.cell? ⟨w.heap.size + 1 + 1, 3, none⟩ = some (.int .u64 0) := kept hb1 (by first | go_cell | (with_reducible exact kept (World.below_alloc _ _) (by with_reducible assumption)))
  have f60 : w1.frozen? ⟨w.heap.size + 1 + 1, 3, none⟩ = false := keptf hb1 (by first | go_cell | (simp [go_sem]; done) | (with_reducible exact keptz (World.below_alloc _ _) (by with_reducible assumption) (by with_reducible assumption))) k60
  have x61 : Writ w1 (w.heap.size + 1 + 1) 4 := fun i hi => by
    rcases (by omega : i = 0 ∨ i = 1 ∨ i = 2 ∨ i = 3) with rfl | rfl | rfl | rfl
    · exact ⟨⟨_, k57⟩, f57⟩
    · exact ⟨⟨_, k58⟩, f58⟩
    · exact ⟨⟨_, k59⟩, f59⟩
    · exact ⟨⟨_, k60⟩, f60⟩
  clear hb1 HCK
  go_wp2_with fail
  refine bodyPost_ret (v := .tuple #[.agg #[.int .u64 0, .int .u64 0, .int .u64 0, .int .u64 0], .int .i64 2]) (by simp [results, Try.results29, go_sem, *]) rfl ?_
  exact ⟨rfl, by go_grown⟩
end Go.Proofs.Ytiglfbnicihpmaa
