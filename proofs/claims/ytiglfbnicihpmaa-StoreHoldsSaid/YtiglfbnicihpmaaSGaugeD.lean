/- Walks of package gauge: sums, differences, joins; what becomes of a gauge and other numbers. -/
import Derived.Test.YtiglfbnicihpmaaSGaugeC
import Derived.Deep.DeepMust
set_option linter.unusedVariables false
set_option linter.unusedSimpArgs false
namespace Go.Proofs.Ytiglfbnicihpmaa
open Go.RowKit

theorem join_any (b : Nat) (x y : Int) (w : World) (hx : U x) (h0 : w.cell? ⟨b, 0, none⟩ = some (.int .u64 x)) (h1 : w.cell? ⟨b, 1, none⟩ = some (.int .u64 y)) :
    Calls Try.prog 59 #[.slice (some ⟨b, 0, none⟩) 2 2] w fun e w' => e = .returned (.int .u64 (orI x y)) ∧ w = w' := by
  have hz := orI_zero hx
  unfold orI at *
  have HZ := Lib.hid hz
  clear hz
  go_enter Try.func59, Try.ntmps59
  go_wp2_with (first | (go_at_call 70; refine (join1_any _ _ _).mono ?_; rintro e w' ⟨rfl, rfl⟩) | go_in | (refine wp_loop_rounds 3 ?_; rw [rounds_succ]) | (rw [rounds_succ]))
  go_ret
  exact ⟨by show Ending.returned (.int .u64 (bits .or .u64 (bits .or .u64 0 x) y)) = _; rw [HZ.out], rfl⟩

theorem plus_any (x0 x1 x2 y0 y1 y2 : Int) (w : World) (hx0 : 0 ≤ x0) (hx1 : 0 ≤ x1) (hx2 : 0 ≤ x2) (hy0 : 0 ≤ y0) (hy1 : 0 ≤ y1) (hy2 : 0 ≤ y2)
    (h0 : x0 + y0 ≤ 18446744073709551615) (h1 : x1 + y1 ≤ 18446744073709551615) (h2 : x2 + y2 ≤ 18446744073709551615) :
    Calls Try.prog 58 #[.agg #[.int .u64 x0, .int .u64 x1, .int .u64 x2], .agg #[.int .u64 y0, .int .u64 y1, .int .u64 y2]] w
      fun e w' => e = .returned (.agg #[.int .u64 (x0 + y0), .int .u64 (x1 + y1), .int .u64 (x2 + y2)]) ∧ Below w.heap.size w w' := by
  have hF : ∀ w : World, Calls Try.prog 61 #[.agg #[.int .u64 x0, .int .u64 x1, .int .u64 x2], .agg #[.int .u64 y0, .int .u64 y1, .int .u64 y2], .func (.func 68) #[] #[]] w
      fun e w' => e = .returned (.agg #[.int .u64 (x0 + y0), .int .u64 (x1 + y1), .int .u64 (x2 + y2)]) ∧ Below w.heap.size w w' := fun w =>
    folded_any 68 #[] (fun x y => x + y) x0 x1 x2 y0 y1 y2 w (enters_of Try.func68 (by kernel_rfl) rfl) (fun x y W hxy _ =>
      (plus1_any x y W (by omega) (by omega) (by omega)).mono fun e w' ⟨he, hw⟩ => ⟨he, 0, hw.symm⟩)
  have HF := Lib.hid hF
  clear hF
  go_enter Try.func58, Try.ntmps58
  go_wp2_with fail
  refine (HF.out _).mono ?_
  rintro e w1 ⟨rfl, hb⟩
  have b1 : Below w.heap.size w w1 := Below.trans (by go_grown) (Below.mono hb (by first | omega | (simp; done) | (simp; omega)))
  have z1 := Below.size hb
  try simp only [World.size_alloc, World.size_drew, World.size_setCell] at z1
  have k2 : w1.cell? ⟨w.heap.size + 1 + 1, 0, none⟩ = some (.int .u64 0) := kept hb (by first | go_cell | (with_reducible exact kept (World.below_alloc _ _) (by with_reducible assumption)))
  have f2 : w1.frozen? ⟨w.heap.size + 1 + 1, 0, none⟩ = false := keptf hb (by first | go_cell | (simp [go_sem]; done) | (with_reducible exact keptz (World.below_alloc _ _) (by with_reducible assumption) (by with_reducible assumption))) k2
  have k3 : w1.cell? ⟨w.heap.size + 1 + 1, 1, none⟩ = some (.int .u64 0) := kept hb (by first | go_cell | (with_reducible exact kept (World.below_alloc _ _) (by with_reducible assumption)))
  have f3 : w1.frozen? ⟨w.heap.size + 1 + 1, 1, none⟩ = false := keptf hb (by first | go_cell | (simp [go_sem]; done) | (with_reducible exact keptz (World.below_alloc _ _) (by with_reducible assumption) (by with_reducible assumption))) k3
  have k4 : w1.cell? ⟨w.heap.size + 1 + 1, 2, none⟩ = some (.int .u64 0) := kept hb (by first | go_cell | (with_reducible exact kept (World.below_alloc _ _) (by with_reducible assumption)))
  have f4 : w1.frozen? ⟨w.heap.size + 1 + 1, 2, none⟩ = false := keptf hb (by first | go_cell | (simp [go_sem]; done) | (with_reducible exact keptz (World.below_alloc _ _) (by with_reducible assumption) (by with_reducible assumption))) k4
  have x5 : Writ w1 (w.heap.size + 1 + 1) 3 := fun i hi => by
    rcases (by omega : i = 0 ∨ i = 1 ∨ i = 2) with rfl | rfl | rfl
    · exact ⟨⟨_, k2⟩, f2⟩
    · exact ⟨⟨_, k3⟩, f3⟩
    · exact ⟨⟨_, k4⟩, f4⟩
  clear hb
  go_wp2_with fail
  refine bodyPost_ret (v := .agg #[.int .u64 (x0 + y0), .int .u64 (x1 + y1), .int .u64 (x2 + y2)]) (by simp [results, Try.results58, go_sem, *]) rfl ?_
  refine ⟨rfl, ?_⟩
  go_grown

set_option maxHeartbeats 1000000 in
/-- What becomes of a gauge and other numbers. -/
theorem both_plus (l lo hi a l' lo' hi' a' z0 z1 z2 : Int) (w : World) (ha : U a)
    (hf : ∀ W : World, Calls Try.prog 58 #[.agg #[.int .u64 l, .int .u64 lo, .int .u64 hi], .agg #[.int .u64 l', .int .u64 lo', .int .u64 hi']] W fun e w' => e = .returned (.agg #[.int .u64 z0, .int .u64 z1, .int .u64 z2]) ∧ Below W.heap.size W w') :
    Calls Try.prog 49 #[.agg #[.int .u64 l, .int .u64 lo, .int .u64 hi, .int .u64 a], .agg #[.int .u64 l', .int .u64 lo', .int .u64 hi', .int .u64 a'], .func (.func 58) #[] #[]] w
      fun e w' => e = .returned (.agg #[.int .u64 z0, .int .u64 z1, .int .u64 z2, .int .u64 (madeA z1 z2 (orI a a'))]) ∧ Below w.heap.size w w' := by
  have HF := Lib.hid hf
  clear hf
  go_enter Try.func49, Try.ntmps49
  go_wp2_with fail
  refine (ofGauge_any _ _ _ _ _).mono ?_
  rintro e w1 ⟨rfl, hb1⟩
  have b7 : Below w.heap.size w w1 := Below.trans (by go_grown) (Below.mono hb1 (by first | omega | (simp; done) | (simp; omega)))
  have z7 := Below.size hb1
  try simp only [World.size_alloc, World.size_drew, World.size_setCell] at z7
  have k8 : w1.cell? ⟨w.heap.size + 1, 0, none⟩ = some (.int .u64 l') := kept hb1 (by first | go_cell | (with_reducible exact kept (World.below_alloc _ _) (by with_reducible assumption)))
  have k9 : w1.cell? ⟨w.heap.size + 1, 1, none⟩ = some (.int .u64 lo') := kept hb1 (by first | go_cell | (with_reducible exact kept (World.below_alloc _ _) (by with_reducible assumption)))
  have k10 : w1.cell? ⟨w.heap.size + 1, 2, none⟩ = some (.int .u64 hi') := kept hb1 (by first | go_cell | (with_reducible exact kept (World.below_alloc _ _) (by with_reducible assumption)))
  have k11 : w1.cell? ⟨w.heap.size + 1, 3, none⟩ = some (.int .u64 a') := kept hb1 (by first | go_cell | (with_reducible exact kept (World.below_alloc _ _) (by with_reducible assumption)))
  have k13 : w1.cell? ⟨w.heap.size + 1 + 1, 0, none⟩ = some (.int .u64 0) := kept hb1 (by first | go_cell | (with_reducible exact kept (World.below_alloc _ _) (by with_reducible assumption)))
  have f13 : w1.frozen? ⟨w.heap.size + 1 + 1, 0, none⟩ = false := keptf hb1 (by first | go_cell | (simp [go_sem]; done) | (with_reducible exact keptz (World.below_alloc _ _) (by with_reducible assumption) (by with_reducible assumption))) k13
  have k14 : w1.cell? ⟨w.heap.size + 1 + 1, 1, none⟩ = some (.int .u64 0) := kept hb1 (by first | go_cell | (with_reducible exact kept (World.below_alloc _ _) (by with_reducible assumption)))
  have f14 : w1.frozen? ⟨w.heap.size + 1 + 1, 1, none⟩ = false := keptf hb1 (by first | go_cell | (simp [go_sem]; done) | (with_reducible exact keptz (World.below_alloc _ _) (by with_reducible assumption) (by with_reducible assumption))) k14
  have k15 : w1.cell? ⟨w.heap.size + 1 + 1, 2, none⟩ = some (.int .u64 0) := kept hb1 (by first | go_cell | (with_reducible exact kept (World.below_alloc _ _) (by with_reducible assumption)))
  have f15 : w1.frozen? ⟨w.heap.size + 1 + 1, 2, none⟩ = false := keptf hb1 (by first | go_cell | (simp [go_sem]; done) | (with_reducible exact keptz (World.below_alloc _ _) (by with_reducible assumption) (by with_reducible assumption))) k15
  have k16 : w1.cell? ⟨w.heap.size + 1 + 1, 3, none⟩ = some (.int .u64 0) := kept hb1 (by first | go_cell | (with_reducible exact kept (World.below_alloc _ _) (by with_reducible assumption)))
  have f16 : w1.frozen? ⟨w.heap.size + 1 + 1, 3, none⟩ = false := keptf hb1 (by first | go_cell | (simp [go_sem]; done) | (with_reducible exact keptz (World.below_alloc _ _) (by with_reducible assumption) (by with_reducible assumption))) k16
  have x17 : Writ w1 (w.heap.size + 1 + 1) 4 := fun i hi => by
    rcases (by omega : i = 0 ∨ i = 1 ∨ i = 2 ∨ i = 3) with rfl | rfl | rfl | rfl
    · exact ⟨⟨_, k13⟩, f13⟩
    · exact ⟨⟨_, k14⟩, f14⟩
    · exact ⟨⟨_, k15⟩, f15⟩
    · exact ⟨⟨_, k16⟩, f16⟩
  clear hb1
  go_wp2_with fail
  have k19 : (w1.alloc (.cells #[.int .u64 l, .int .u64 lo, .int .u64 hi, .int .u64 a] 99)).cell? ⟨w1.heap.size, 0, none⟩ = some (.int .u64 l) := by first | go_cell | (with_reducible exact kept (World.below_alloc _ _) (by with_reducible assumption)) | (simp [*, World.cell?_alloc_some]; done)
  have k20 : (w1.alloc (.cells #[.int .u64 l, .int .u64 lo, .int .u64 hi, .int .u64 a] 99)).cell? ⟨w1.heap.size, 1, none⟩ = some (.int .u64 lo) := by first | go_cell | (with_reducible exact kept (World.below_alloc _ _) (by with_reducible assumption)) | (simp [*, World.cell?_alloc_some]; done)
  have k21 : (w1.alloc (.cells #[.int .u64 l, .int .u64 lo, .int .u64 hi, .int .u64 a] 99)).cell? ⟨w1.heap.size, 2, none⟩ = some (.int .u64 hi) := by first | go_cell | (with_reducible exact kept (World.below_alloc _ _) (by with_reducible assumption)) | (simp [*, World.cell?_alloc_some]; done)
  have k22 : (w1.alloc (.cells #[.int .u64 l, .int .u64 lo, .int .u64 hi, .int .u64 a] 99)).cell? ⟨w1.heap.size, 3, none⟩ = some (.int .u64 a) := by first | go_cell | (with_reducible exact kept (World.below_alloc _ _) (by with_reducible assumption)) | (simp [*, World.cell?_alloc_some]; done)
  have k23 : (w1.alloc (.cells #[.int .u64 l, .int .u64 lo, .int .u64 hi, .int .u64 a] 99)).cell? ⟨w.heap.size + 1, 0, none⟩ = some (.int .u64 l') := by first | go_cell | (with_reducible exact kept (World.below_alloc _ _) (by with_reducible assumption)) | (simp [*, World.cell?_alloc_some]; done)
  have k24 : (w1.alloc (.cells #[.int .u64 l, .int .u64 lo, .int .u64 hi, .int .u64 a] 99)).cell? ⟨w.heap.size + 1, 1, none⟩ = some (.int .u64 lo') := by first | go_cell | (with_reducible exact kept (World.below_alloc _ _) (by with_reducible assumption)) | (simp [*, World.cell?_alloc_some]; done)
  have k25 : (w1.alloc (.cells #[.int .u64 l, .int .u64 lo, .int .u64 hi, .int .u64 a] 99)).cell? ⟨w.heap.size + 1, 2, none⟩ = some (.int .u64 hi') := by first | go_cell | (with_reducible exact kept (World.below_alloc _ _) (by with_reducible assumption)) | (simp [*, World.cell?_alloc_some]; done)
  have k26 : (w1.alloc (.cells #[.int .u64 l, .int .u64 lo, .int .u64 hi, .int .u64 a] 99)).cell? ⟨w.heap.size + 1, 3, none⟩ = some (.int .u64 a') := by first | go_cell | (with_reducible exact kept (World.below_alloc _ _) (by with_reducible assumption)) | (simp [*, World.cell?_alloc_some]; done)
  have x27 : Writ (w1.alloc (.cells #[.int .u64 l, .int .u64 lo, .int .u64 hi, .int .u64 a] 99)) (w.heap.size + 1 + 1) 4 := by first | assumption | (exact Writ.kept (by assumption) (World.below_alloc _ _)) | (exact Writ.drew (by assumption)) | (exact writ_at _ _ _ _ _ (by simp) (by simp)) | (exact Writ.kept (writ_at _ _ _ _ _ (by simp) (by simp)) (World.below_alloc _ _)) | (exact Writ.kept (Writ.kept (writ_at _ _ _ _ _ (by simp) (by simp)) (World.below_alloc _ _)) (World.below_alloc _ _))
  have b28 : Below w.heap.size w (w1.alloc (.cells #[.int .u64 l, .int .u64 lo, .int .u64 hi, .int .u64 a] 99)) := by go_grown
  have z28 := Below.size b28
  generalize w1.alloc (.cells #[.int .u64 l, .int .u64 lo, .int .u64 hi, .int .u64 a] 99) = W0 at *
  first | go_region_held3 (fun W => W.cell? ⟨w1.heap.size, 0, none⟩ = some (.int .u64 l) ∧ W.cell? ⟨w1.heap.size, 1, none⟩ = some (.int .u64 lo) ∧ W.cell? ⟨w1.heap.size, 2, none⟩ = some (.int .u64 hi) ∧ W.cell? ⟨w1.heap.size, 3, none⟩ = some (.int .u64 a) ∧ W.cell? ⟨w.heap.size + 1, 0, none⟩ = some (.int .u64 l') ∧ W.cell? ⟨w.heap.size + 1, 1, none⟩ = some (.int .u64 lo') ∧ W.cell? ⟨w.heap.size + 1, 2, none⟩ = some (.int .u64 hi') ∧ W.cell? ⟨w.heap.size + 1, 3, none⟩ = some (.int .u64 a') ∧ Writ W (w.heap.size + 1 + 1) 4 ∧ Below w.heap.size w W ∧ w.heap.size ≤ W.heap.size ∧ W0.heap.size ≤ W.heap.size)
      ((go_split_ands; refine ⟨?_, ?_, ?_, ?_, ?_, ?_, ?_, ?_, ?_, ?_, ?_, ?_⟩ <;> first | (with_reducible assumption) | (with_reducible exact kept hb2 (by first | (with_reducible assumption) | (with_reducible exact drewc (by with_reducible assumption)))) | (with_reducible exact Writ.kept (by first | (with_reducible assumption) | (with_reducible exact Writ.drew (by with_reducible assumption))) hb2) | (with_reducible exact drewc (by with_reducible assumption)) | (with_reducible exact Writ.drew (by with_reducible assumption)) | (with_reducible exact kept (World.below_alloc _ _) (by first | (with_reducible assumption) | (with_reducible exact drewc (by with_reducible assumption)))) | (with_reducible exact Writ.kept (by first | (with_reducible assumption) | (with_reducible exact Writ.drew (by with_reducible assumption))) (World.below_alloc _ _)) | (with_reducible exact drewc (kept (World.below_alloc _ _) (by with_reducible assumption))) | (with_reducible exact Writ.drew (Writ.kept (by with_reducible assumption) (World.below_alloc _ _))) | (with_reducible refine Below.trans ?_ (Below.mono hb2 ?_) <;> first | (go_grown; done) | (exact Below.size (B := w.heap.size) (by go_grown)) | omega) | ((repeat (with_reducible refine far ?_ (by first | (simp; done) | omega | (simp; omega)))); first | (with_reducible assumption) | (with_reducible exact kept hb2 (by first | (with_reducible assumption) | (with_reducible exact drewc (by with_reducible assumption))))) | ((repeat (with_reducible refine Writ.set ?_ _ _)); with_reducible assumption) | (go_grown; done) | omega | (simp only [World.size_alloc, World.size_drew, World.size_setCell]; omega)))
      (first | (go_at_call 59; refine (join_any _ a a' _ ha ?_ ?_).mono ?_; (first | (with_reducible exact newc _ _ _ _ rfl) | (with_reducible exact kept hb2 (drewc (newc _ _ _ _ rfl))) | (with_reducible exact kept hb2 (newc _ _ _ _ rfl))); (first | (with_reducible exact newc _ _ _ _ rfl) | (with_reducible exact kept hb2 (drewc (newc _ _ _ _ rfl))) | (with_reducible exact kept hb2 (newc _ _ _ _ rfl))); rintro e w2 ⟨rfl, rfl⟩) | (go_at_call 58; refine (HF.out _).mono ?_; rintro e w2 ⟨rfl, hb2⟩; have hz2 := Below.size hb2; (try simp only [World.size_alloc, World.size_drew, World.size_setCell] at hz2)) | (go_at_call 60; go_split_ands; refine (gauge_any _ _ _ _ _).mono ?_; rintro e w2 ⟨rfl, hb2⟩; have hz2 := Below.size hb2; (try simp only [World.size_alloc, World.size_drew, World.size_setCell] at hz2); have y29 := Writ.kept (r := w.heap.size + 1 + 1) (n := 4) (by assumption) hb2; obtain ⟨⟨u29x0, c29x0⟩, f29x0⟩ := y29 0 (by omega); obtain ⟨⟨u29x1, c29x1⟩, f29x1⟩ := y29 1 (by omega); obtain ⟨⟨u29x2, c29x2⟩, f29x2⟩ := y29 2 (by omega); obtain ⟨⟨u29x3, c29x3⟩, f29x3⟩ := y29 3 (by omega))) | fail
  all_goals (go_split_ands; clear HF; go_wp2_with fail)
  all_goals (refine bodyPost_ret (v := .agg #[.int .u64 z0, .int .u64 z1, .int .u64 z2, .int .u64 (madeA z1 z2 (orI a a'))]) (by simp [results, Try.results49, go_sem, *]) rfl ?_)
  all_goals exact ⟨rfl, by with_reducible assumption⟩

theorem minus_any (x0 x1 x2 y0 y1 y2 : Int) (w : World) (hx0 : U x0) (hx1 : U x1) (hx2 : U x2) (hy0 : 0 ≤ y0) (hy1 : 0 ≤ y1) (hy2 : 0 ≤ y2) :
    Calls Try.prog 51 #[.agg #[.int .u64 x0, .int .u64 x1, .int .u64 x2], .agg #[.int .u64 y0, .int .u64 y1, .int .u64 y2]] w
      fun e w' => e = .returned (.agg #[.int .u64 (x0 - min x0 y0), .int .u64 (x1 - min x1 y2), .int .u64 (x2 - min x2 y1)]) ∧ Below w.heap.size w w' := by
  have hF : ∀ w : World, Calls Try.prog 61 #[.agg #[.int .u64 x0, .int .u64 x1, .int .u64 x2], .agg #[.int .u64 y0, .int .u64 y2, .int .u64 y1], .func (.func 62) #[] #[]] w
      fun e w' => e = .returned (.agg #[.int .u64 (x0 - min x0 y0), .int .u64 (x1 - min x1 y2), .int .u64 (x2 - min x2 y1)]) ∧ Below w.heap.size w w' := fun w =>
    folded_any 62 #[] (fun x y => x - min x y) x0 x1 x2 y0 y2 y1 w (enters_of Try.func62 (by kernel_rfl) rfl) (fun x y W hxy _ =>
      (minus1_any x y W (by unfold U at *; omega) (by unfold U at *; omega) (by omega)).mono fun e w' ⟨he, hw⟩ => ⟨he, 0, hw.symm⟩)
  have HF := Lib.hid hF
  clear hF
  generalize x0 - min x0 y0 = z0 at *
  generalize x1 - min x1 y2 = z1 at *
  generalize x2 - min x2 y1 = z2 at *
  go_enter Try.func51, Try.ntmps51
  go_wp2_with fail
  refine (HF.out _).mono ?_
  rintro e w1 ⟨rfl, hb⟩
  have b30 : Below w.heap.size w w1 := Below.trans (by go_grown) (Below.mono hb (by first | omega | (simp; done) | (simp; omega)))
  have z30 := Below.size hb
  try simp only [World.size_alloc, World.size_drew, World.size_setCell] at z30
  have k31 : w1.cell? ⟨w.heap.size + 1 + 1, 0, none⟩ = some (.int .u64 0) := kept hb (by first | go_cell | (with_reducible exact kept (World.below_alloc _ _) (by with_reducible assumption)))
  have f31 : w1.frozen? ⟨w.heap.size + 1 + 1, 0, none⟩ = false := keptf hb (by first | go_cell | (simp [go_sem]; done) | (with_reducible exact keptz (World.below_alloc _ _) (by with_reducible assumption) (by with_reducible assumption))) k31
  have k32 : w1.cell? ⟨w.heap.size + 1 + 1, 1, none⟩ = some (.int .u64 0) := kept hb (by first | go_cell | (with_reducible exact kept (World.below_alloc _ _) (by with_reducible assumption)))
  have f32 : w1.frozen? ⟨w.heap.size + 1 + 1, 1, none⟩ = false := keptf hb (by first | go_cell | (simp [go_sem]; done) | (with_reducible exact keptz (World.below_alloc _ _) (by with_reducible assumption) (by with_reducible assumption))) k32
  have k33 : w1.cell? ⟨w.heap.size + 1 + 1, 2, none⟩ = some (.int .u64 0) := kept hb (by first | go_cell | (with_reducible exact kept (World.below_alloc _ _) (by with_reducible assumption)))
  have f33 : w1.frozen? ⟨w.heap.size + 1 + 1, 2, none⟩ = false := keptf hb (by first | go_cell | (simp [go_sem]; done) | (with_reducible exact keptz (World.below_alloc _ _) (by with_reducible assumption) (by with_reducible assumption))) k33
  have x34 : Writ w1 (w.heap.size + 1 + 1) 3 := fun i hi => by
    rcases (by omega : i = 0 ∨ i = 1 ∨ i = 2) with rfl | rfl | rfl
    · exact ⟨⟨_, k31⟩, f31⟩
    · exact ⟨⟨_, k32⟩, f32⟩
    · exact ⟨⟨_, k33⟩, f33⟩
  clear hb
  go_wp2_with fail
  refine bodyPost_ret (v := .agg #[.int .u64 z0, .int .u64 z1, .int .u64 z2]) (by simp [results, Try.results51, go_sem, *]) rfl ?_
  refine ⟨rfl, ?_⟩
  go_grown

set_option maxHeartbeats 1000000 in
/-- What becomes of a gauge and other numbers. -/
theorem both_minus (l lo hi a l' lo' hi' a' z0 z1 z2 : Int) (w : World) (ha : U a)
    (hf : ∀ W : World, Calls Try.prog 51 #[.agg #[.int .u64 l, .int .u64 lo, .int .u64 hi], .agg #[.int .u64 l', .int .u64 lo', .int .u64 hi']] W fun e w' => e = .returned (.agg #[.int .u64 z0, .int .u64 z1, .int .u64 z2]) ∧ Below W.heap.size W w') :
    Calls Try.prog 49 #[.agg #[.int .u64 l, .int .u64 lo, .int .u64 hi, .int .u64 a], .agg #[.int .u64 l', .int .u64 lo', .int .u64 hi', .int .u64 a'], .func (.func 51) #[] #[]] w
      fun e w' => e = .returned (.agg #[.int .u64 z0, .int .u64 z1, .int .u64 z2, .int .u64 (madeA z1 z2 (orI a a'))]) ∧ Below w.heap.size w w' := by
  have HF := Lib.hid hf
  clear hf
  go_enter Try.func49, Try.ntmps49
  go_wp2_with fail
  refine (ofGauge_any _ _ _ _ _).mono ?_
  rintro e w1 ⟨rfl, hb1⟩
  have b36 : Below w.heap.size w w1 := Below.trans (by go_grown) (Below.mono hb1 (by first | omega | (simp; done) | (simp; omega)))
  have z36 := Below.size hb1
  try simp only [World.size_alloc, World.size_drew, World.size_setCell] at z36
  have k37 : w1.cell? ⟨w.heap.size + 1, 0, none⟩ = some (.int .u64 l') := kept hb1 (by first | go_cell | (with_reducible exact kept (World.below_alloc _ _) (by with_reducible assumption)))
  have k38 : w1.cell? ⟨w.heap.size + 1, 1, none⟩ = some (.int .u64 lo') := kept hb1 (by first | go_cell | (with_reducible exact kept (World.below_alloc _ _) (by with_reducible assumption)))
  have k39 : w1.cell? ⟨w.heap.size + 1, 2, none⟩ = some (.int .u64 hi') := kept hb1 (by first | go_cell | (with_reducible exact kept (World.below_alloc _ _) (by with_reducible assumption)))
  have k40 : w1.cell? ⟨w.heap.size + 1, 3, none⟩ = some (.int .u64 a') := kept hb1 (by first | go_cell | (with_reducible exact kept (World.below_alloc _ _) (by with_reducible assumption)))
  have k42 : w1.cell? ⟨w.heap.size + 1 + 1, 0, none⟩ = some (.int .u64 0) := kept hb1 (by first | go_cell | (with_reducible exact kept (World.below_alloc _ _) (by with_reducible assumption)))
  have f42 : w1.frozen? ⟨w.heap.size + 1 + 1, 0, none⟩ = false := keptf hb1 (by first | go_cell | (simp [go_sem]; done) | (with_reducible exact keptz (World.below_alloc _ _) (by with_reducible assumption) (by with_reducible assumption))) k42
  have k43 : w1.cell? ⟨w.heap.size + 1 + 1, 1, none⟩ = some (.int .u64 0) := kept hb1 (by first | go_cell | (with_reducible exact kept (World.below_alloc _ _) (by with_reducible assumption)))
  have f43 : w1.frozen? ⟨w.heap.size + 1 + 1, 1, none⟩ = false := keptf hb1 (by first | go_cell | (simp [go_sem]; done) | (with_reducible exact keptz (World.below_alloc _ _) (by with_reducible assumption) (by with_reducible assumption))) k43
  have k44 : w1.cell? ⟨w.heap.size + 1 + 1, 2, none⟩ = some (.int .u64 0) := kept hb1 (by first | go_cell | (with_reducible exact kept (World.below_alloc _ _) (by with_reducible assumption)))
  have f44 : w1.frozen? ⟨w.heap.size + 1 + 1, 2, none⟩ = false := keptf hb1 (by first | go_cell | (simp [go_sem]; done) | (with_reducible exact keptz (World.below_alloc _ _) (by with_reducible assumption) (by with_reducible assumption))) k44
  have k45 : w1.cell? ⟨w.heap.size + 1 + 1, 3, none⟩ = some (.int .u64 0) := kept hb1 (by first | go_cell | (with_reducible exact kept (World.below_alloc _ _) (by with_reducible assumption)))
  have f45 : w1.frozen? ⟨w.heap.size + 1 + 1, 3, none⟩ = false := keptf hb1 (by first | go_cell | (simp [go_sem]; done) | (with_reducible exact keptz (World.below_alloc _ _) (by with_reducible assumption) (by with_reducible assumption))) k45
  have x46 : Writ w1 (w.heap.size + 1 + 1) 4 := fun i hi => by
    rcases (by omega : i = 0 ∨ i = 1 ∨ i = 2 ∨ i = 3) with rfl | rfl | rfl | rfl
    · exact ⟨⟨_, k42⟩, f42⟩
    · exact ⟨⟨_, k43⟩, f43⟩
    · exact ⟨⟨_, k44⟩, f44⟩
    · exact ⟨⟨_, k45⟩, f45⟩
  clear hb1
  go_wp2_with fail
  have k48 : (w1.alloc (.cells #[.int .u64 l, .int .u64 lo, .int .u64 hi, .int .u64 a] 99)).cell? ⟨w1.heap.size, 0, none⟩ = some (.int .u64 l) := by first | go_cell | (with_reducible exact kept (World.below_alloc _ _) (by with_reducible assumption)) | (simp [*, World.cell?_alloc_some]; done)
  have k49 : (w1.alloc (.cells #[.int .u64 l, .int .u64 lo, .int .u64 hi, .int .u64 a] 99)).cell? ⟨w1.heap.size, 1, none⟩ = some (.int .u64 lo) := by first | go_cell | (with_reducible exact kept (World.below_alloc _ _) (by with_reducible assumption)) | (simp [*, World.cell?_alloc_some]; done)
  have k50 : (w1.alloc (.cells #[.int .u64 l, .int .u64 lo, .int .u64 hi, .int .u64 a] 99)).cell? ⟨w1.heap.size, 2, none⟩ = some (.int .u64 hi) := by first | go_cell | (with_reducible exact kept (World.below_alloc _ _) (by with_reducible assumption)) | (simp [*, World.cell?_alloc_some]; done)
  have k51 : (w1.alloc (.cells #[.int .u64 l, .int .u64 lo, .int .u64 hi, .int .u64 a] 99)).cell? ⟨w1.heap.size, 3, none⟩ = some (.int .u64 a) := by first | go_cell | (with_reducible exact kept (World.below_alloc _ _) (by with_reducible assumption)) | (simp [*, World.cell?_alloc_some]; done)
  have k52 : (w1.alloc (.cells #[.int .u64 l, .int .u64 lo, .int .u64 hi, .int .u64 a] 99)).cell? ⟨w.heap.size + 1, 0, none⟩ = some (.int .u64 l') := by first | go_cell | (with_reducible exact kept (World.below_alloc _ _) (by with_reducible assumption)) | (simp [*, World.cell?_alloc_some]; done)
  have k53 : (w1.alloc (.cells #[.int .u64 l, .int .u64 lo, .int .u64 hi, .int .u64 a] 99)).cell? ⟨w.heap.size + 1, 1, none⟩ = some (.int .u64 lo') := by first | go_cell | (with_reducible exact kept (World.below_alloc _ _) (by with_reducible assumption)) | (simp [*, World.cell?_alloc_some]; done)
  have k54 : (w1.alloc (.cells #[.int .u64 l, .int .u64 lo, .int .u64 hi, .int .u64 a] 99)).cell? ⟨w.heap.size + 1, 2, none⟩ = some (.int .u64 hi') := by first | go_cell | (with_reducible exact kept (World.below_alloc _ _) (by with_reducible assumption)) | (simp [*, World.cell?_alloc_some]; done)
  have k55 : (w1.alloc (.cells #[.int .u64 l, .int .u64 lo, .int .u64 hi, .int .u64 a] 99)).cell? ⟨w.heap.size + 1, 3, none⟩ = some (.int .u64 a') := by first | go_cell | (with_reducible exact kept (World.below_alloc _ _) (by with_reducible assumption)) | (simp [*, World.cell?_alloc_some]; done)
  have x56 : Writ (w1.alloc (.cells #[.int .u64 l, .int .u64 lo, .int .u64 hi, .int .u64 a] 99)) (w.heap.size + 1 + 1) 4 := by first | assumption | (exact Writ.kept (by assumption) (World.below_alloc _ _)) | (exact Writ.drew (by assumption)) | (exact writ_at _ _ _ _ _ (by simp) (by simp)) | (exact Writ.kept (writ_at _ _ _ _ _ (by simp) (by simp)) (World.below_alloc _ _)) | (exact Writ.kept (Writ.kept (writ_at _ _ _ _ _ (by simp) (by simp)) (World.below_alloc _ _)) (World.below_alloc _ _))
  have b57 : Below w.heap.size w (w1.alloc (.cells #[.int .u64 l, .int .u64 lo, .int .u64 hi, .int .u64 a] 99)) := by go_grown
  have z57 := Below.size b57
  generalize w1.alloc (.cells #[.int .u64 l, .int .u64 lo, .int .u64 hi, .int .u64 a] 99) = W0 at *
  first | go_region_held3 (fun W => W.cell? ⟨w1.heap.size, 0, none⟩ = some (.int .u64 l) ∧ W.cell? ⟨w1.heap.size, 1, none⟩ = some (.int .u64 lo) ∧ W.cell? ⟨w1.heap.size, 2, none⟩ = some (.int .u64 hi) ∧ W.cell? ⟨w1.heap.size, 3, none⟩ = some (.int .u64 a) ∧ W.cell? ⟨w.heap.size + 1, 0, none⟩ = some (.int .u64 l') ∧ W.cell? ⟨w.heap.size + 1, 1, none⟩ = some (.int .u64 lo') ∧ W.cell? ⟨w.heap.size + 1, 2, none⟩ = some (.int .u64 hi') ∧ W.cell? ⟨w.heap.size + 1, 3, none⟩ = some (.int .u64 a') ∧ Writ W (w.heap.size + 1 + 1) 4 ∧ Below w.heap.size w W ∧ w.heap.size ≤ W.heap.size ∧ W0.heap.size ≤ W.heap.size)
      ((go_split_ands; refine ⟨?_, ?_, ?_, ?_, ?_, ?_, ?_, ?_, ?_, ?_, ?_, ?_⟩ <;> first | (with_reducible assumption) | (with_reducible exact kept hb2 (by first | (with_reducible assumption) | (with_reducible exact drewc (by with_reducible assumption)))) | (with_reducible exact Writ.kept (by first | (with_reducible assumption) | (with_reducible exact Writ.drew (by with_reducible assumption))) hb2) | (with_reducible exact drewc (by with_reducible assumption)) | (with_reducible exact Writ.drew (by with_reducible assumption)) | (with_reducible exact kept (World.below_alloc _ _) (by first | (with_reducible assumption) | (with_reducible exact drewc (by with_reducible assumption)))) | (with_reducible exact Writ.kept (by first | (with_reducible assumption) | (with_reducible exact Writ.drew (by with_reducible assumption))) (World.below_alloc _ _)) | (with_reducible exact drewc (kept (World.below_alloc _ _) (by with_reducible assumption))) | (with_reducible exact Writ.drew (Writ.kept (by with_reducible assumption) (World.below_alloc _ _))) | (with_reducible refine Below.trans ?_ (Below.mono hb2 ?_) <;> first | (go_grown; done) | (exact Below.size (B := w.heap.size) (by go_grown)) | omega) | ((repeat (with_reducible refine far ?_ (by first | (simp; done) | omega | (simp; omega)))); first | (with_reducible assumption) | (with_reducible exact kept hb2 (by first | (with_reducible assumption) | (with_reducible exact drewc (by with_reducible assumption))))) | ((repeat (with_reducible refine Writ.set ?_ _ _)); with_reducible assumption) | (go_grown; done) | omega | (simp only [World.size_alloc, World.size_drew, World.size_setCell]; omega)))
      (first | (go_at_call 59; refine (join_any _ a a' _ ha ?_ ?_).mono ?_; (first | (with_reducible exact newc _ _ _ _ rfl) | (with_reducible exact kept hb2 (drewc (newc _ _ _ _ rfl))) | (with_reducible exact kept hb2 (newc _ _ _ _ rfl))); (first | (with_reducible exact newc _ _ _ _ rfl) | (with_reducible exact kept hb2 (drewc (newc _ _ _ _ rfl))) | (with_reducible exact kept hb2 (newc _ _ _ _ rfl))); rintro e w2 ⟨rfl, rfl⟩) | (go_at_call 51; refine (HF.out _).mono ?_; rintro e w2 ⟨rfl, hb2⟩; have hz2 := Below.size hb2; (try simp only [World.size_alloc, World.size_drew, World.size_setCell] at hz2)) | (go_at_call 60; go_split_ands; refine (gauge_any _ _ _ _ _).mono ?_; rintro e w2 ⟨rfl, hb2⟩; have hz2 := Below.size hb2; (try simp only [World.size_alloc, World.size_drew, World.size_setCell] at hz2); have y58 := Writ.kept (r := w.heap.size + 1 + 1) (n := 4) (by assumption) hb2; obtain ⟨⟨u58x0, c58x0⟩, f58x0⟩ := y58 0 (by omega); obtain ⟨⟨u58x1, c58x1⟩, f58x1⟩ := y58 1 (by omega); obtain ⟨⟨u58x2, c58x2⟩, f58x2⟩ := y58 2 (by omega); obtain ⟨⟨u58x3, c58x3⟩, f58x3⟩ := y58 3 (by omega))) | fail
  all_goals (go_split_ands; clear HF; go_wp2_with fail)
  all_goals (refine bodyPost_ret (v := .agg #[.int .u64 z0, .int .u64 z1, .int .u64 z2, .int .u64 (madeA z1 z2 (orI a a'))]) (by simp [results, Try.results49, go_sem, *]) rfl ?_)
  all_goals exact ⟨rfl, by with_reducible assumption⟩

end Go.Proofs.Ytiglfbnicihpmaa
