/- Walks of the document's answers: Lower, Take. -/
import Derived.Test.YtiglfbnicihpmaaSGaugeH
set_option linter.unusedVariables false
set_option linter.unusedSimpArgs false
namespace Go.Proofs.Ytiglfbnicihpmaa
open Go.RowKit

set_option maxHeartbeats 2000000 in
theorem refLower_in1 (g c : Kn) (w : World) (hg : g.ok = true) (hc : c.ok = true) (hlo : 0 ≤ g.lo ∧ 0 ≤ c.lo) (hs : c.l ≤ g.l) (hm : g.lo ≤ c.hi) :
    Calls Try.prog 31 #[.agg #[.int .u64 g.l, .int .u64 g.lo, .int .u64 g.hi, .int .u64 g.a], .agg #[.int .u64 c.l, .int .u64 c.lo, .int .u64 c.hi, .int .u64 c.a]] w
      fun e w' => e = .returned (.tuple #[.agg #[.int .u64 (g.l - c.l), .int .u64 0, .int .u64 (g.hi - c.lo), .int .u64 (madeA 0 (g.hi - c.lo) (orI g.a c.a))], .int .i64 0]) ∧ Below w.heap.size w w' := by
  have gr := (oG_right _ _ _ _).1 hg
  have cr := (oG_right _ _ _ _).1 hc
  have hw0 : IntKind.u64.wrap (g.l - c.l) = g.l - c.l := IntWalk.u64_in _ (by omega)
  have hw1 : IntKind.u64.wrap (g.lo - g.lo) = g.lo - g.lo := IntWalk.u64_in _ (by omega)
  have hw2 : IntKind.u64.wrap (g.hi - c.lo) = g.hi - c.lo := IntWalk.u64_in _ (by omega)
  clear gr cr
  have hw3 : IntKind.u64.wrap 0 = 0 := IntWalk.u64_in _ (by omega)
  have hG := fun W : World => refRight_any g.l g.lo g.hi g.a W
  rw [show rightB g.l g.lo g.hi g.a = true from hg] at hG
  have HG := Lib.hid hG
  clear hG hg
  have hC := fun W : World => refRightCost_any c.l c.lo c.hi c.a W
  rw [show rightB c.l c.lo c.hi c.a = true from hc] at hC
  have HC := Lib.hid hC
  clear hC hc
  go_enter Try.func31, Try.ntmps31
  go_wp2_with fail
  refine (HG.out _).mono ?_
  rintro e w1 ⟨rfl, hb1⟩
  have b1 : Below w.heap.size w w1 := Below.trans (by go_grown) (Below.mono hb1 (by first | omega | (simp; done) | (simp; omega)))
  have z1 := Below.size hb1
  try simp only [World.size_alloc, World.size_drew, World.size_setCell] at z1
  have k2 : w1.cell? ⟨w.heap.size, 0, none⟩ = some (.int .u64 g.l) := kept hb1 (by first | go_cell | (with_reducible exact kept (World.below_alloc _ _) (by with_reducible assumption)))
  have k3 : w1.cell? ⟨w.heap.size, 1, none⟩ = some (.int .u64 g.lo) := kept hb1 (by first | go_cell | (with_reducible exact kept (World.below_alloc _ _) (by with_reducible assumption)))
  have k4 : w1.cell? ⟨w.heap.size, 2, none⟩ = some (.int .u64 g.hi) := kept hb1 (by first | go_cell | (with_reducible exact kept (World.below_alloc _ _) (by with_reducible assumption)))
  have k5 : w1.cell? ⟨w.heap.size, 3, none⟩ = some (.int .u64 g.a) := kept hb1 (by first | go_cell | (with_reducible exact kept (World.below_alloc _ _) (by with_reducible assumption)))
  have k7 : w1.cell? ⟨w.heap.size + 1, 0, none⟩ = some (.int .u64 c.l) := kept hb1 (by first | go_cell | (with_reducible exact kept (World.below_alloc _ _) (by with_reducible assumption)))
  have k8 : w1.cell? ⟨w.heap.size + 1, 1, none⟩ = some (.int .u64 c.lo) := kept hb1 (by first | go_cell | (with_reducible exact kept (World.below_alloc _ _) (by with_reducible assumption)))
  have k9 : w1.cell? ⟨w.heap.size + 1, 2, none⟩ = some (.int .u64 c.hi) := kept hb1 (by first | go_cell | (with_reducible exact kept (World.below_alloc _ _) (by with_reducible assumption)))
  have k10 : w1.cell? ⟨w.heap.size + 1, 3, none⟩ = some (.int .u64 c.a) := kept hb1 (by first | go_cell | (with_reducible exact kept (World.below_alloc _ _) (by with_reducible assumption)))
  have k12 : w1.cell? ⟨w.heap.size + 1 + 1, 0, none⟩ = some (.int .u64 0) := kept hb1 (by first | go_cell | (with_reducible exact kept (World.below_alloc _ _) (by with_reducible assumption)))
  have f12 : w1.frozen? ⟨w.heap.size + 1 + 1, 0, none⟩ = false := keptf hb1 (by first | go_cell | (simp [go_sem]; done) | (with_reducible exact keptz (World.below_alloc _ _) (by with_reducible assumption) (by with_reducible assumption))) k12
  have k13 : w1.cell? ⟨w.heap.size + 1 + 1, 1, none⟩ = some (.int .u64 0) := kept hb1 (by first | go_cell | (with_reducible exact kept (World.below_alloc _ _) (by with_reducible assumption)))
  have f13 : w1.frozen? ⟨w.heap.size + 1 + 1, 1, none⟩ = false := keptf hb1 (by first | go_cell | (simp [go_sem]; done) | (with_reducible exact keptz (World.below_alloc _ _) (by with_reducible assumption) (by with_reducible assumption))) k13
  have k14 : w1.cell? ⟨w.heap.size + 1 + 1, 2, none⟩ = some (.int .u64 0) := kept hb1 (by first | go_cell | (with_reducible exact kept (World.below_alloc _ _) (by with_reducible assumption)))
  have f14 : w1.frozen? ⟨w.heap.size + 1 + 1, 2, none⟩ = false := keptf hb1 (by first | go_cell | (simp [go_sem]; done) | (with_reducible exact keptz (World.below_alloc _ _) (by with_reducible assumption) (by with_reducible assumption))) k14
  have k15 : w1.cell? ⟨w.heap.size + 1 + 1, 3, none⟩ = some (.int .u64 0) := kept hb1 (by first | go_cell | (with_reducible exact kept (World.below_alloc _ _) (by with_reducible assumption)))
  have f15 : w1.frozen? ⟨w.heap.size + 1 + 1, 3, none⟩ = false := keptf hb1 (by first | go_cell | (simp [go_sem]; done) | (with_reducible exact keptz (World.below_alloc _ _) (by with_reducible assumption) (by with_reducible assumption))) k15
  have x16 : Writ w1 (w.heap.size + 1 + 1) 4 := fun i hi => by
    rcases (by omega : i = 0 ∨ i = 1 ∨ i = 2 ∨ i = 3) with rfl | rfl | rfl | rfl
    · exact ⟨⟨_, k12⟩, f12⟩
    · exact ⟨⟨_, k13⟩, f13⟩
    · exact ⟨⟨_, k14⟩, f14⟩
    · exact ⟨⟨_, k15⟩, f15⟩
  clear hb1
  go_wp2_with fail
  refine (HC.out _).mono ?_
  rintro e w3 ⟨rfl, hb3⟩
  have b18 : Below w.heap.size w w3 := Below.trans (by go_grown) (Below.mono hb3 (by first | omega | (simp; done) | (simp; omega)))
  have z18 := Below.size hb3
  try simp only [World.size_alloc, World.size_drew, World.size_setCell] at z18
  have k19 : w3.cell? ⟨w.heap.size, 0, none⟩ = some (.int .u64 g.l) := kept hb3 (by first | go_cell | (with_reducible exact kept (World.below_alloc _ _) (by with_reducible assumption)))
  have k20 : w3.cell? ⟨w.heap.size, 1, none⟩ = some (.int .u64 g.lo) := kept hb3 (by first | go_cell | (with_reducible exact kept (World.below_alloc _ _) (by with_reducible assumption)))
  have k21 : w3.cell? ⟨w.heap.size, 2, none⟩ = some (.int .u64 g.hi) := kept hb3 (by first | go_cell | (with_reducible exact kept (World.below_alloc _ _) (by with_reducible assumption)))
  have k22 : w3.cell? ⟨w.heap.size, 3, none⟩ = some (.int .u64 g.a) := kept hb3 (by first | go_cell | (with_reducible exact kept (World.below_alloc _ _) (by with_reducible assumption)))
  have k24 : w3.cell? ⟨w.heap.size + 1, 0, none⟩ = some (.int .u64 c.l) := kept hb3 (by first | go_cell | (with_reducible exact kept (World.below_alloc _ _) (by with_reducible assumption)))
  have k25 : w3.cell? ⟨w.heap.size + 1, 1, none⟩ = some (.int .u64 c.lo) := kept hb3 (by first | go_cell | (with_reducible exact kept (World.below_alloc _ _) (by with_reducible assumption)))
  have k26 : w3.cell? ⟨w.heap.size + 1, 2, none⟩ = some (.int .u64 c.hi) := kept hb3 (by first | go_cell | (with_reducible exact kept (World.below_alloc _ _) (by with_reducible assumption)))
  have k27 : w3.cell? ⟨w.heap.size + 1, 3, none⟩ = some (.int .u64 c.a) := kept hb3 (by first | go_cell | (with_reducible exact kept (World.below_alloc _ _) (by with_reducible assumption)))
  have k29 : w3.cell? ⟨w.heap.size + 1 + 1, 0, none⟩ = some (.int .u64 0) := kept hb3 (by first | go_cell | (with_reducible exact kept (World.below_alloc _ _) (by with_reducible assumption)))
  have f29 : w3.frozen? ⟨w.heap.size + 1 + 1, 0, none⟩ = false := keptf hb3 (by first | go_cell | (simp [go_sem]; done) | (with_reducible exact keptz (World.below_alloc _ _) (by with_reducible assumption) (by with_reducible assumption))) k29
  have k30 : w3.cell? ⟨w.heap.size + 1 + 1, 1, none⟩ = some (.int .u64 0) := kept hb3 (by first | go_cell | (with_reducible exact kept (World.below_alloc _ _) (by with_reducible assumption)))
  have f30 : w3.frozen? ⟨w.heap.size + 1 + 1, 1, none⟩ = false := keptf hb3 (by first | go_cell | (simp [go_sem]; done) | (with_reducible exact keptz (World.below_alloc _ _) (by with_reducible assumption) (by with_reducible assumption))) k30
  have k31 : w3.cell? ⟨w.heap.size + 1 + 1, 2, none⟩ = some (.int .u64 0) := kept hb3 (by first | go_cell | (with_reducible exact kept (World.below_alloc _ _) (by with_reducible assumption)))
  have f31 : w3.frozen? ⟨w.heap.size + 1 + 1, 2, none⟩ = false := keptf hb3 (by first | go_cell | (simp [go_sem]; done) | (with_reducible exact keptz (World.below_alloc _ _) (by with_reducible assumption) (by with_reducible assumption))) k31
  have k32 : w3.cell? ⟨w.heap.size + 1 + 1, 3, none⟩ = some (.int .u64 0) := kept hb3 (by first | go_cell | (with_reducible exact kept (World.below_alloc _ _) (by with_reducible assumption)))
  have f32 : w3.frozen? ⟨w.heap.size + 1 + 1, 3, none⟩ = false := keptf hb3 (by first | go_cell | (simp [go_sem]; done) | (with_reducible exact keptz (World.below_alloc _ _) (by with_reducible assumption) (by with_reducible assumption))) k32
  have x33 : Writ w3 (w.heap.size + 1 + 1) 4 := fun i hi => by
    rcases (by omega : i = 0 ∨ i = 1 ∨ i = 2 ∨ i = 3) with rfl | rfl | rfl | rfl
    · exact ⟨⟨_, k29⟩, f29⟩
    · exact ⟨⟨_, k30⟩, f30⟩
    · exact ⟨⟨_, k31⟩, f31⟩
    · exact ⟨⟨_, k32⟩, f32⟩
  clear hb3 HG HC
  go_wp2_with fail
  have k35 : (w3).cell? ⟨w.heap.size, 0, none⟩ = some (.int .u64 g.l) := by first | go_cell | (with_reducible exact kept (World.below_alloc _ _) (by with_reducible assumption)) | (simp [*, World.cell?_alloc_some]; done)
  have k36 : (w3).cell? ⟨w.heap.size, 1, none⟩ = some (.int .u64 g.lo) := by first | go_cell | (with_reducible exact kept (World.below_alloc _ _) (by with_reducible assumption)) | (simp [*, World.cell?_alloc_some]; done)
  have k37 : (w3).cell? ⟨w.heap.size, 2, none⟩ = some (.int .u64 g.hi) := by first | go_cell | (with_reducible exact kept (World.below_alloc _ _) (by with_reducible assumption)) | (simp [*, World.cell?_alloc_some]; done)
  have k38 : (w3).cell? ⟨w.heap.size, 3, none⟩ = some (.int .u64 g.a) := by first | go_cell | (with_reducible exact kept (World.below_alloc _ _) (by with_reducible assumption)) | (simp [*, World.cell?_alloc_some]; done)
  have k39 : (w3).cell? ⟨w.heap.size + 1, 0, none⟩ = some (.int .u64 c.l) := by first | go_cell | (with_reducible exact kept (World.below_alloc _ _) (by with_reducible assumption)) | (simp [*, World.cell?_alloc_some]; done)
  have k40 : (w3).cell? ⟨w.heap.size + 1, 1, none⟩ = some (.int .u64 c.lo) := by first | go_cell | (with_reducible exact kept (World.below_alloc _ _) (by with_reducible assumption)) | (simp [*, World.cell?_alloc_some]; done)
  have k41 : (w3).cell? ⟨w.heap.size + 1, 2, none⟩ = some (.int .u64 c.hi) := by first | go_cell | (with_reducible exact kept (World.below_alloc _ _) (by with_reducible assumption)) | (simp [*, World.cell?_alloc_some]; done)
  have k42 : (w3).cell? ⟨w.heap.size + 1, 3, none⟩ = some (.int .u64 c.a) := by first | go_cell | (with_reducible exact kept (World.below_alloc _ _) (by with_reducible assumption)) | (simp [*, World.cell?_alloc_some]; done)
  have x43 : Writ (w3) (w.heap.size + 1 + 1) 4 := by first | assumption | (exact Writ.kept (by assumption) (World.below_alloc _ _)) | (exact Writ.drew (by assumption)) | (exact writ_at _ _ _ _ _ (by simp) (by simp)) | (exact Writ.kept (writ_at _ _ _ _ _ (by simp) (by simp)) (World.below_alloc _ _)) | (exact Writ.kept (Writ.kept (writ_at _ _ _ _ _ (by simp) (by simp)) (World.below_alloc _ _)) (World.below_alloc _ _))
  have b44 : Below w.heap.size w (w3) := by go_grown
  have z44 := Below.size b44
  first | go_region_held3 (fun W => W.cell? ⟨w.heap.size, 0, none⟩ = some (.int .u64 g.l) ∧ W.cell? ⟨w.heap.size, 1, none⟩ = some (.int .u64 g.lo) ∧ W.cell? ⟨w.heap.size, 2, none⟩ = some (.int .u64 g.hi) ∧ W.cell? ⟨w.heap.size, 3, none⟩ = some (.int .u64 g.a) ∧ W.cell? ⟨w.heap.size + 1, 0, none⟩ = some (.int .u64 c.l) ∧ W.cell? ⟨w.heap.size + 1, 1, none⟩ = some (.int .u64 c.lo) ∧ W.cell? ⟨w.heap.size + 1, 2, none⟩ = some (.int .u64 c.hi) ∧ W.cell? ⟨w.heap.size + 1, 3, none⟩ = some (.int .u64 c.a) ∧ Writ W (w.heap.size + 1 + 1) 4 ∧ Below w.heap.size w W ∧ w.heap.size ≤ W.heap.size ∧ w3.heap.size ≤ W.heap.size)
      ((go_split_ands; refine ⟨?_, ?_, ?_, ?_, ?_, ?_, ?_, ?_, ?_, ?_, ?_, ?_⟩ <;> first | (with_reducible assumption) | (with_reducible exact kept hb2 (by first | (with_reducible assumption) | (with_reducible exact drewc (by with_reducible assumption)))) | (with_reducible exact Writ.kept (by first | (with_reducible assumption) | (with_reducible exact Writ.drew (by with_reducible assumption))) hb2) | (with_reducible exact drewc (by with_reducible assumption)) | (with_reducible exact Writ.drew (by with_reducible assumption)) | (with_reducible exact kept (World.below_alloc _ _) (by first | (with_reducible assumption) | (with_reducible exact drewc (by with_reducible assumption)))) | (with_reducible exact Writ.kept (by first | (with_reducible assumption) | (with_reducible exact Writ.drew (by with_reducible assumption))) (World.below_alloc _ _)) | (with_reducible exact drewc (kept (World.below_alloc _ _) (by with_reducible assumption))) | (with_reducible exact Writ.drew (Writ.kept (by with_reducible assumption) (World.below_alloc _ _))) | (with_reducible refine Below.trans ?_ (Below.mono hb2 ?_) <;> first | (go_grown; done) | (exact Below.size (B := w.heap.size) (by go_grown)) | omega) | ((repeat (with_reducible refine far ?_ (by first | (simp; done) | omega | (simp; omega)))); first | (with_reducible assumption) | (with_reducible exact kept hb2 (by first | (with_reducible assumption) | (with_reducible exact drewc (by with_reducible assumption))))) | ((repeat (with_reducible refine Writ.set ?_ _ _)); with_reducible assumption) | (go_grown; done) | omega | (simp only [World.size_alloc, World.size_drew, World.size_setCell]; omega)))
      (first | (go_at_call 24; refine (refJoin_or _ _ _).mono ?_; rintro e w2 ⟨rfl, rfl⟩) | (go_at_call 53; go_split_ands; refine (refMade_any _ _ _ _ _).mono ?_; rintro e w2 ⟨rfl, hb2⟩; have hz2 := Below.size hb2; (try simp only [World.size_alloc, World.size_drew, World.size_setCell] at hz2); have y45 := Writ.kept (r := w.heap.size + 1 + 1) (n := 4) (by assumption) hb2; obtain ⟨⟨u45x0, c45x0⟩, f45x0⟩ := y45 0 (by omega); obtain ⟨⟨u45x1, c45x1⟩, f45x1⟩ := y45 1 (by omega); obtain ⟨⟨u45x2, c45x2⟩, f45x2⟩ := y45 2 (by omega); obtain ⟨⟨u45x3, c45x3⟩, f45x3⟩ := y45 3 (by omega))) | fail
  all_goals (go_split_ands; go_wp2_with fail)
  all_goals (refine bodyPost_ret (v := .tuple #[.agg #[.int .u64 (g.l - c.l), .int .u64 0, .int .u64 (g.hi - c.lo), .int .u64 (madeA 0 (g.hi - c.lo) (orI g.a c.a))], .int .i64 0]) (by simp [results, Try.results31, go_sem, *]) rfl ?_)
  all_goals exact ⟨rfl, by with_reducible assumption⟩
set_option maxHeartbeats 2000000 in
theorem refLower_in2 (g c : Kn) (w : World) (hg : g.ok = true) (hc : c.ok = true) (hlo : 0 ≤ g.lo ∧ 0 ≤ c.lo) (hs : c.l ≤ g.l) (hm : c.hi < g.lo) :
    Calls Try.prog 31 #[.agg #[.int .u64 g.l, .int .u64 g.lo, .int .u64 g.hi, .int .u64 g.a], .agg #[.int .u64 c.l, .int .u64 c.lo, .int .u64 c.hi, .int .u64 c.a]] w
      fun e w' => e = .returned (.tuple #[.agg #[.int .u64 (g.l - c.l), .int .u64 (g.lo - c.hi), .int .u64 (g.hi - c.lo), .int .u64 (madeA (g.lo - c.hi) (g.hi - c.lo) (orI g.a c.a))], .int .i64 0]) ∧ Below w.heap.size w w' := by
  have gr := (oG_right _ _ _ _).1 hg
  have cr := (oG_right _ _ _ _).1 hc
  have hw0 : IntKind.u64.wrap (g.l - c.l) = g.l - c.l := IntWalk.u64_in _ (by omega)
  have hw1 : IntKind.u64.wrap (g.lo - c.hi) = g.lo - c.hi := IntWalk.u64_in _ (by omega)
  have hw2 : IntKind.u64.wrap (g.hi - c.lo) = g.hi - c.lo := IntWalk.u64_in _ (by omega)
  clear gr cr
  have hw3 : IntKind.u64.wrap 0 = 0 := IntWalk.u64_in _ (by omega)
  have hG := fun W : World => refRight_any g.l g.lo g.hi g.a W
  rw [show rightB g.l g.lo g.hi g.a = true from hg] at hG
  have HG := Lib.hid hG
  clear hG hg
  have hC := fun W : World => refRightCost_any c.l c.lo c.hi c.a W
  rw [show rightB c.l c.lo c.hi c.a = true from hc] at hC
  have HC := Lib.hid hC
  clear hC hc
  go_enter Try.func31, Try.ntmps31
  go_wp2_with fail
  refine (HG.out _).mono ?_
  rintro e w1 ⟨rfl, hb1⟩
  have b46 : Below w.heap.size w w1 := Below.trans (by go_grown) (Below.mono hb1 (by first | omega | (simp; done) | (simp; omega)))
  have z46 := Below.size hb1
  try simp only [World.size_alloc, World.size_drew, World.size_setCell] at z46
  have k47 : w1.cell? ⟨w.heap.size, 0, none⟩ = some (.int .u64 g.l) := kept hb1 (by first | go_cell | (with_reducible exact kept (World.below_alloc _ _) (by with_reducible assumption)))
  have k48 : w1.cell? ⟨w.heap.size, 1, none⟩ = some (.int .u64 g.lo) := kept hb1 (by first | go_cell | (with_reducible exact kept (World.below_alloc _ _) (by with_reducible assumption)))
  have k49 : w1.cell? ⟨w.heap.size, 2, none⟩ = some (.int .u64 g.hi) := kept hb1 (by first | go_cell | (with_reducible exact kept (World.below_alloc _ _) (by with_reducible assumption)))
  have k50 : w1.cell? ⟨w.heap.size, 3, none⟩ = some (.int .u64 g.a) := kept hb1 (by first | go_cell | (with_reducible exact kept (World.below_alloc _ _) (by with_reducible assumption)))
  have k52 : w1.cell? ⟨w.heap.size + 1, 0, none⟩ = some (.int .u64 c.l) := kept hb1 (by first | go_cell | (with_reducible exact kept (World.below_alloc _ _) (by with_reducible assumption)))
  have k53 : w1.cell? ⟨w.heap.size + 1, 1, none⟩ = some (.int .u64 c.lo) := kept hb1 (by first | go_cell | (with_reducible exact kept (World.below_alloc _ _) (by with_reducible assumption)))
  have k54 : w1.cell? ⟨w.heap.size + 1, 2, none⟩ = some (.int .u64 c.hi) := kept hb1 (by first | go_cell | (with_reducible exact kept (World.below_alloc _ _) (by with_reducible assumption)))
  have k55 : w1.cell? ⟨w.heap.size + 1, 3, none⟩ = some (.int .u64 c.a) := kept hb1 (by first | go_cell | (with_reducible exact kept (World.below_alloc _ _) (by with_reducible assumption)))
  have k57 : w1.cell? ⟨w.heap.size + 1 + 1, 0, none⟩ = some (.int .u64 0) := kept hb1 (by first | go_cell | (with_reducible exact kept (World.below_alloc _ _) (by with_reducible assumption)))
  have f57 : w1.frozen? ⟨w.heap.size + 1 + 1, 0, none⟩ = false := keptf hb1 (by first | go_cell | (simp [go_sem]; done) | (with_reducible exact keptz (World.below_alloc _ _) (by with_reducible assumption) (by with_reducible assumption))) k57
  have k58 : w1.cell? ⟨w.heap.size + 1 + 1, 1, none⟩ = some (.int .u64 0) := kept hb1 (by first | go_cell | (with_reducible exact kept (World.below_alloc _ _) (by with_reducible assumption)))
  have f58 : w1.frozen? ⟨w.heap.size + 1 + 1, 1, none⟩ = false := keptf hb1 (by first | go_cell | (simp [go_sem]; done) | (with_reducible exact keptz (World.below_alloc _ _) (by with_reducible assumption) (by with_reducible assumption))) k58
  have k59 : w1.cell? ⟨w.heap.size + 1 + 1, 2, none⟩ = some (.int .u64 0) := kept hb1 (by first | go_cell | (with_reducible exact kept (World.below_alloc _ _) (by with_reducible assumption)))
  have f59 : w1.frozen? ⟨w.heap.size + 1 + 1, 2, none⟩ = false := keptf hb1 (by first | go_cell | (simp [go_sem]; done) | (with_reducible exact keptz (World.below_alloc _ _) (by with_reducible assumption) (by with_reducible assumption))) k59
  have k60 : w1.cell? ⟨w.heap.size + 1 + 1, 3, none⟩ = some (.int .u64 0) := kept hb1 (by first | go_cell | (with_reducible exact kept (World.below_alloc _ _) (by with_reducible assumption)))
  have f60 : w1.frozen? ⟨w.heap.size + 1 + 1, 3, none⟩ = false := keptf hb1 (by first | go_cell | (simp [go_sem]; done) | (with_reducible exact keptz (World.below_alloc _ _) (by with_reducible assumption) (by with_reducible assumption))) k60
  have x61 : Writ w1 (w.heap.size + 1 + 1) 4 := fun i hi => by
    rcases (by omega : i = 0 ∨ i = 1 ∨ i = 2 ∨ i = 3) with rfl | rfl | rfl | rfl
    · exact ⟨⟨_, k57⟩, f57⟩
    · exact ⟨⟨_, k58⟩, f58⟩
    · exact ⟨⟨_, k59⟩, f59⟩
    · exact ⟨⟨_, k60⟩, f60⟩
  clear hb1
  go_wp2_with fail
  refine (HC.out _).mono ?_
  rintro e w3 ⟨rfl, hb3⟩
  have b63 : Below w.heap.size w w3 := Below.trans (by go_grown) (Below.mono hb3 (by first | omega | (simp; done) | (simp; omega)))
  have z63 := Below.size hb3
  try simp only [World.size_alloc, World.size_drew, World.size_setCell] at z63
  have k64 : w3.cell? ⟨w.heap.size, 0, none⟩ = some (.int .u64 g.l) := kept hb3 (by first | go_cell | (with_reducible exact kept (World.below_alloc _ _) (by with_reducible assumption)))
  have k65 : w3.cell? ⟨w.heap.size, 1, none⟩ = some (.int .u64 g.lo) := kept hb3 (by first | go_cell | (with_reducible exact kept (World.below_alloc _ _) (by with_reducible assumption)))
  have k66 : w3.cell? ⟨w.heap.size, 2, none⟩ = some (.int .u64 g.hi) := kept hb3 (by first | go_cell | (with_reducible exact kept (World.below_alloc _ _) (by with_reducible assumption)))
  have k67 : w3.cell? ⟨w.heap.size, 3, none⟩ = some (.int .u64 g.a) := kept hb3 (by first | go_cell | (with_reducible exact kept (World.below_alloc _ _) (by with_reducible assumption)))
  have k69 : w3.cell? ⟨w.heap.size + 1, 0, none⟩ = some (.int .u64 c.l) := kept hb3 (by first | go_cell | (with_reducible exact kept (World.below_alloc _ _) (by with_reducible assumption)))
  have k70 : w3.cell? ⟨w.heap.size + 1, 1, none⟩ = some (.int .u64 c.lo) := kept hb3 (by first | go_cell | (with_reducible exact kept (World.below_alloc _ _) (by with_reducible assumption)))
  have k71 : w3.cell? ⟨w.heap.size + 1, 2, none⟩ = some (.int .u64 c.hi) := kept hb3 (by first | go_cell | (with_reducible exact kept (World.below_alloc _ _) (by with_reducible assumption)))
  have k72 : w3.cell? ⟨w.heap.size + 1, 3, none⟩ = some (.int .u64 c.a) := kept hb3 (by first | go_cell | (with_reducible exact kept (World.below_alloc _ _) (by with_reducible assumption)))
  have k74 : w3.cell? ⟨w.heap.size + 1 + 1, 0, none⟩ = some (.int .u64 0) := kept hb3 (by first | go_cell | (with_reducible exact kept (World.below_alloc _ _) (by with_reducible assumption)))
  have f74 : w3.frozen? ⟨w.heap.size + 1 + 1, 0, none⟩ = false := keptf hb3 (by first | go_cell | (simp [go_sem]; done) | (with_reducible exact keptz (World.below_alloc _ _) (by with_reducible assumption) (by with_reducible assumption))) k74
  have k75 : w3.cell? ⟨w.heap.size + 1 + 1, 1, none⟩ = some (.int .u64 0) := kept hb3 (by first | go_cell | (with_reducible exact kept (World.below_alloc _ _) (by with_reducible assumption)))
  have f75 : w3.frozen? ⟨w.heap.size + 1 + 1, 1, none⟩ = false := keptf hb3 (by first | go_cell | (simp [go_sem]; done) | (with_reducible exact keptz (World.below_alloc _ _) (by with_reducible assumption) (by with_reducible assumption))) k75
  have k76 : w3.cell? ⟨w.heap.size + 1 + 1, 2, none⟩ = some (.int .u64 0) := kept hb3 (by first | go_cell | (with_reducible exact kept (World.below_alloc _ _) (by with_reducible assumption)))
  have f76 : w3.frozen? ⟨w.heap.size + 1 + 1, 2, none⟩ = false := keptf hb3 (by first | go_cell | (simp [go_sem]; done) | (with_reducible exact keptz (World.below_alloc _ _) (by with_reducible assumption) (by with_reducible assumption))) k76
  have k77 : w3.cell? ⟨w.heap.size + 1 + 1, 3, none⟩ = some (.int .u64 0) := kept hb3 (by first | go_cell | (with_reducible exact kept (World.below_alloc _ _) (by with_reducible assumption)))
  have f77 : w3.frozen? ⟨w.heap.size + 1 + 1, 3, none⟩ = false := keptf hb3 (by first | go_cell | (simp [go_sem]; done) | (with_reducible exact keptz (World.below_alloc _ _) (by with_reducible assumption) (by with_reducible assumption))) k77
  have x78 : Writ w3 (w.heap.size + 1 + 1) 4 := fun i hi => by
    rcases (by omega : i = 0 ∨ i = 1 ∨ i = 2 ∨ i = 3) with rfl | rfl | rfl | rfl
    · exact ⟨⟨_, k74⟩, f74⟩
    · exact ⟨⟨_, k75⟩, f75⟩
    · exact ⟨⟨_, k76⟩, f76⟩
    · exact ⟨⟨_, k77⟩, f77⟩
  clear hb3 HG HC
  go_wp2_with fail
  have k80 : (w3).cell? ⟨w.heap.size, 0, none⟩ = some (.int .u64 g.l) := by first | go_cell | (with_reducible exact kept (World.below_alloc _ _) (by with_reducible assumption)) | (simp [*, World.cell?_alloc_some]; done)
  have k81 : (w3).cell? ⟨w.heap.size, 1, none⟩ = some (.int .u64 g.lo) := by first | go_cell | (with_reducible exact kept (World.below_alloc _ _) (by with_reducible assumption)) | (simp [*, World.cell?_alloc_some]; done)
  have k82 : (w3).cell? ⟨w.heap.size, 2, none⟩ = some (.int .u64 g.hi) := by first | go_cell | (with_reducible exact kept (World.below_alloc _ _) (by with_reducible assumption)) | (simp [*, World.cell?_alloc_some]; done)
  have k83 : (w3).cell? ⟨w.heap.size, 3, none⟩ = some (.int .u64 g.a) := by first | go_cell | (with_reducible exact kept (World.below_alloc _ _) (by with_reducible assumption)) | (simp [*, World.cell?_alloc_some]; done)
  have k84 : (w3).cell? ⟨w.heap.size + 1, 0, none⟩ = some (.int .u64 c.l) := by first | go_cell | (with_reducible exact kept (World.below_alloc _ _) (by with_reducible assumption)) | (simp [*, World.cell?_alloc_some]; done)
  have k85 : (w3).cell? ⟨w.heap.size + 1, 1, none⟩ = some (.int .u64 c.lo) := by first | go_cell | (with_reducible exact kept (World.below_alloc _ _) (by with_reducible assumption)) | (simp [*, World.cell?_alloc_some]; done)
  have k86 : (w3).cell? ⟨w.heap.size + 1, 2, none⟩ = some (.int .u64 c.hi) := by first | go_cell | (with_reducible exact kept (World.below_alloc _ _) (by with_reducible assumption)) | (simp [*, World.cell?_alloc_some]; done)
  have k87 : (w3).cell? ⟨w.heap.size + 1, 3, none⟩ = some (.int .u64 c.a) := by first | go_cell | (with_reducible exact kept (World.below_alloc _ _) (by with_reducible assumption)) | (simp [*, World.cell?_alloc_some]; done)
  have x88 : Writ (w3) (w.heap.size + 1 + 1) 4 := by first | assumption | (exact Writ.kept (by assumption) (World.below_alloc _ _)) | (exact Writ.drew (by assumption)) | (exact writ_at _ _ _ _ _ (by simp) (by simp)) | (exact Writ.kept (writ_at _ _ _ _ _ (by simp) (by simp)) (World.below_alloc _ _)) | (exact Writ.kept (Writ.kept (writ_at _ _ _ _ _ (by simp) (by simp)) (World.below_alloc _ _)) (World.below_alloc _ _))
  have b89 : Below w.heap.size w (w3) := by go_grown
  have z89 := Below.size b89
  first | go_region_held3 (fun W => W.cell? ⟨w.heap.size, 0, none⟩ = some (.int .u64 g.l) ∧ W.cell? ⟨w.heap.size, 1, none⟩ = some (.int .u64 g.lo) ∧ W.cell? ⟨w.heap.size, 2, none⟩ = some (.int .u64 g.hi) ∧ W.cell? ⟨w.heap.size, 3, none⟩ = some (.int .u64 g.a) ∧ W.cell? ⟨w.heap.size + 1, 0, none⟩ = some (.int .u64 c.l) ∧ W.cell? ⟨w.heap.size + 1, 1, none⟩ = some (.int .u64 c.lo) ∧ W.cell? ⟨w.heap.size + 1, 2, none⟩ = some (.int .u64 c.hi) ∧ W.cell? ⟨w.heap.size + 1, 3, none⟩ = some (.int .u64 c.a) ∧ Writ W (w.heap.size + 1 + 1) 4 ∧ Below w.heap.size w W ∧ w.heap.size ≤ W.heap.size ∧ w3.heap.size ≤ W.heap.size)
      ((go_split_ands; refine ⟨?_, ?_, ?_, ?_, ?_, ?_, ?_, ?_, ?_, ?_, ?_, ?_⟩ <;> first | (with_reducible assumption) | (with_reducible exact kept hb2 (by first | (with_reducible assumption) | (with_reducible exact drewc (by with_reducible assumption)))) | (with_reducible exact Writ.kept (by first | (with_reducible assumption) | (with_reducible exact Writ.drew (by with_reducible assumption))) hb2) | (with_reducible exact drewc (by with_reducible assumption)) | (with_reducible exact Writ.drew (by with_reducible assumption)) | (with_reducible exact kept (World.below_alloc _ _) (by first | (with_reducible assumption) | (with_reducible exact drewc (by with_reducible assumption)))) | (with_reducible exact Writ.kept (by first | (with_reducible assumption) | (with_reducible exact Writ.drew (by with_reducible assumption))) (World.below_alloc _ _)) | (with_reducible exact drewc (kept (World.below_alloc _ _) (by with_reducible assumption))) | (with_reducible exact Writ.drew (Writ.kept (by with_reducible assumption) (World.below_alloc _ _))) | (with_reducible refine Below.trans ?_ (Below.mono hb2 ?_) <;> first | (go_grown; done) | (exact Below.size (B := w.heap.size) (by go_grown)) | omega) | ((repeat (with_reducible refine far ?_ (by first | (simp; done) | omega | (simp; omega)))); first | (with_reducible assumption) | (with_reducible exact kept hb2 (by first | (with_reducible assumption) | (with_reducible exact drewc (by with_reducible assumption))))) | ((repeat (with_reducible refine Writ.set ?_ _ _)); with_reducible assumption) | (go_grown; done) | omega | (simp only [World.size_alloc, World.size_drew, World.size_setCell]; omega)))
      (first | (go_at_call 24; refine (refJoin_or _ _ _).mono ?_; rintro e w2 ⟨rfl, rfl⟩) | (go_at_call 53; go_split_ands; refine (refMade_any _ _ _ _ _).mono ?_; rintro e w2 ⟨rfl, hb2⟩; have hz2 := Below.size hb2; (try simp only [World.size_alloc, World.size_drew, World.size_setCell] at hz2); have y90 := Writ.kept (r := w.heap.size + 1 + 1) (n := 4) (by assumption) hb2; obtain ⟨⟨u90x0, c90x0⟩, f90x0⟩ := y90 0 (by omega); obtain ⟨⟨u90x1, c90x1⟩, f90x1⟩ := y90 1 (by omega); obtain ⟨⟨u90x2, c90x2⟩, f90x2⟩ := y90 2 (by omega); obtain ⟨⟨u90x3, c90x3⟩, f90x3⟩ := y90 3 (by omega))) | fail
  all_goals (go_split_ands; go_wp2_with fail)
  all_goals (refine bodyPost_ret (v := .tuple #[.agg #[.int .u64 (g.l - c.l), .int .u64 (g.lo - c.hi), .int .u64 (g.hi - c.lo), .int .u64 (madeA (g.lo - c.hi) (g.hi - c.lo) (orI g.a c.a))], .int .i64 0]) (by simp [results, Try.results31, go_sem, *]) rfl ?_)
  all_goals exact ⟨rfl, by with_reducible assumption⟩
set_option maxHeartbeats 2000000 in
theorem refLower_bad1 (g c : Kn) (w : World) (hg : g.ok = false) :
    Calls Try.prog 31 #[.agg #[.int .u64 g.l, .int .u64 g.lo, .int .u64 g.hi, .int .u64 g.a], .agg #[.int .u64 c.l, .int .u64 c.lo, .int .u64 c.hi, .int .u64 c.a]] w
      fun e w' => e = .returned (.tuple #[.agg #[.int .u64 0, .int .u64 0, .int .u64 0, .int .u64 0], .int .i64 2]) ∧ Below w.heap.size w w' := by
  have hG := fun W : World => refRight_any g.l g.lo g.hi g.a W
  rw [show rightB g.l g.lo g.hi g.a = false from hg] at hG
  have HG := Lib.hid hG
  clear hG hg
  go_enter Try.func31, Try.ntmps31
  go_wp2_with fail
  refine (HG.out _).mono ?_
  rintro e w1 ⟨rfl, hb1⟩
  have b91 : Below w.heap.size w w1 := Below.trans (by go_grown) (Below.mono hb1 (by first | omega | (simp; done) | (simp; omega)))
  have z91 := Below.size hb1
  try simp only [World.size_alloc, World.size_drew, World.size_setCell] at z91
  have k92 : w1.cell? ⟨w.heap.size, 0, none⟩ = some (.int .u64 g.l) := kept hb1 (by first | go_cell | (with_reducible exact kept (World.below_alloc _ _) (by with_reducible assumption)))
  have k93 : w1.cell? ⟨w.heap.size, 1, none⟩ = some (.int .u64 g.lo) := kept hb1 (by first | go_cell | (with_reducible exact kept (World.below_alloc _ _) (by with_reducible assumption)))
  have k94 : w1.cell? ⟨w.heap.size, 2, none⟩ = some (.int .u64 g.hi) := kept hb1 (by first | go_cell | (with_reducible exact kept (World.below_alloc _ _) (by with_reducible assumption)))
  have k95 : w1.cell? ⟨w.heap.size, 3, none⟩ = some (.int .u64 g.a) := kept hb1 (by first | go_cell | (with_reducible exact kept (World.below_alloc _ _) (by with_reducible assumption)))
  have k97 : w1.cell? ⟨w.heap.size + 1, 0, none⟩ = some (.int .u64 c.l) := kept hb1 (by first | go_cell | (with_reducible exact kept (World.below_alloc _ _) (by with_reducible assumption)))
  have k98 : w1.cell? ⟨w.heap.size + 1, 1, none⟩ = some (.int .u64 c.lo) := kept hb1 (by first | go_cell | (with_reducible exact kept (World.below_alloc _ _) (by with_reducible assumption)))
  have k99 : w1.cell? ⟨w.heap.size + 1, 2, none⟩ = some (.int .u64 c.hi) := kept hb1 (by first | go_cell | (with_reducible exact kept (World.below_alloc _ _) (by with_reducible assumption)))
  have k100 : w1.cell? ⟨w.heap.size + 1, 3, none⟩ = some (.int .u64 c.a) := kept hb1 (by first | go_cell | (with_reducible exact kept (World.below_alloc _ _) (by with_reducible assumption)))
  have k102 : w1.cell? ⟨w.heap.size + 1 + 1, 0, none⟩ = some (.int .u64 0) := kept hb1 (by first | go_cell | (with_reducible exact kept (World.below_alloc _ _) (by with_reducible assumption)))
  have f102 : w1.frozen? ⟨w.heap.size + 1 + 1, 0, none⟩ = false := keptf hb1 (by first | go_cell | (simp [go_sem]; done) | (with_reducible exact keptz (World.below_alloc _ _) (by with_reducible assumption) (by with_reducible assumption))) k102
  have k103 : w1.cell? ⟨w.heap.size + 1 + 1, 1, none⟩ = some (.int .u64 0) := kept hb1 (by first | go_cell | (with_reducible exact kept (World.below_alloc _ _) (by with_reducible assumption)))
  have f103 : w1.frozen? ⟨w.heap.size + 1 + 1, 1, none⟩ = false := keptf hb1 (by first | go_cell | (simp [go_sem]; done) | (with_reducible exact keptz (World.below_alloc _ _) (by with_reducible assumption) (by with_reducible assumption))) k103
  have k104 : w1.cell? ⟨w.heap.size + 1 + 1, 2, none⟩ = some (.int .u64 0) := kept hb1 (by first | go_cell | (with_reducible exact kept (World.below_alloc _ _) (by with_reducible assumption)))
  have f104 : w1.frozen? ⟨w.heap.size + 1 + 1, 2, none⟩ = false := keptf hb1 (by first | go_cell | (simp [go_sem]; done) | (with_reducible exact keptz (World.below_alloc _ _) (by with_reducible assumption) (by with_reducible assumption))) k104
  have k105 : w1.cell? ⟨w.heap.size + 1 + 1, 3, none⟩ = some (.int .u64 0) := kept hb1 (by first | go_cell | (with_reducible exact kept (World.below_alloc _ _) (by with_reducible assumption)))
  have f105 : w1.frozen? ⟨w.heap.size + 1 + 1, 3, none⟩ = false := keptf hb1 (by first | go_cell | (simp [go_sem]; done) | (with_reducible exact keptz (World.below_alloc _ _) (by with_reducible assumption) (by with_reducible assumption))) k105
  have x106 : Writ w1 (w.heap.size + 1 + 1) 4 := fun i hi => by
    rcases (by omega : i = 0 ∨ i = 1 ∨ i = 2 ∨ i = 3) with rfl | rfl | rfl | rfl
    · exact ⟨⟨_, k102⟩, f102⟩
    · exact ⟨⟨_, k103⟩, f103⟩
    · exact ⟨⟨_, k104⟩, f104⟩
    · exact ⟨⟨_, k105⟩, f105⟩
  clear hb1
  go_wp2_with fail
  refine bodyPost_ret (v := .tuple #[.agg #[.int .u64 0, .int .u64 0, .int .u64 0, .int .u64 0], .int .i64 2]) (by simp [results, Try.results31, go_sem, *]) rfl ?_
  exact ⟨rfl, by go_grown⟩
set_option maxHeartbeats 2000000 in
theorem refLower_bad2 (g c : Kn) (w : World) (hg : g.ok = true) (hc : c.ok = false) :
    Calls Try.prog 31 #[.agg #[.int .u64 g.l, .int .u64 g.lo, .int .u64 g.hi, .int .u64 g.a], .agg #[.int .u64 c.l, .int .u64 c.lo, .int .u64 c.hi, .int .u64 c.a]] w
      fun e w' => e = .returned (.tuple #[.agg #[.int .u64 0, .int .u64 0, .int .u64 0, .int .u64 0], .int .i64 2]) ∧ Below w.heap.size w w' := by
  have hG := fun W : World => refRight_any g.l g.lo g.hi g.a W
  rw [show rightB g.l g.lo g.hi g.a = true from hg] at hG
  have HG := Lib.hid hG
  clear hG hg
  have hC := fun W : World => refRightCost_any c.l c.lo c.hi c.a W
  rw [show rightB c.l c.lo c.hi c.a = false from hc] at hC
  have HC := Lib.hid hC
  clear hC hc
  go_enter Try.func31, Try.ntmps31
  go_wp2_with fail
  refine (HG.out _).mono ?_
  rintro e w1 ⟨rfl, hb1⟩
  have b108 : Below w.heap.size w w1 := Below.trans (by go_grown) (Below.mono hb1 (by first | omega | (simp; done) | (simp; omega)))
  have z108 := Below.size hb1
  try simp only [World.size_alloc, World.size_drew, World.size_setCell] at z108
  have k109 : w1.cell? ⟨w.heap.size, 0, none⟩ = some (.int .u64 g.l) := kept hb1 (by first | go_cell | (with_reducible exact kept (World.below_alloc _ _) (by with_reducible assumption)))
  have k110 : w1.cell? ⟨w.heap.size, 1, none⟩ = some (.int .u64 g.lo) := kept hb1 (by first | go_cell | (with_reducible exact kept (World.below_alloc _ _) (by with_reducible assumption)))
  have k111 : w1.cell? ⟨w.heap.size, 2, none⟩ = some (.int .u64 g.hi) := kept hb1 (by first | go_cell | (with_reducible exact kept (World.below_alloc _ _) (by with_reducible assumption)))
  have k112 : w1.cell? ⟨w.heap.size, 3, none⟩ = some (.int .u64 g.a) := kept hb1 (by first | go_cell | (with_reducible exact kept (World.below_alloc _ _) (by with_reducible assumption)))
  have k114 : w1.cell? ⟨w.heap.size + 1, 0, none⟩ = some (.int .u64 c.l) := kept hb1 (by first | go_cell | (with_reducible exact kept (World.below_alloc _ _) (by with_reducible assumption)))
  have k115 : w1.cell? ⟨w.heap.size + 1, 1, none⟩ = some (.int .u64 c.lo) := kept hb1 (by first | go_cell | (with_reducible exact kept (World.below_alloc _ _) (by with_reducible assumption)))
  have k116 : w1.cell? ⟨w.heap.size + 1, 2, none⟩ = some (.int .u64 c.hi) := kept hb1 (by first | go_cell | (with_reducible exact kept (World.below_alloc _ _) (by with_reducible assumption)))
  have k117 : w1.cell? ⟨w.heap.size + 1, 3, none⟩ = some (.int .u64 c.a) := kept hb1 (by first | go_cell | (with_reducible exact kept (World.below_alloc _ _) (by with_reducible assumption)))
  have k119 : w1.cell? ⟨w.heap.size + 1 + 1, 0, none⟩ = some (.int .u64 0) := kept hb1 (by first | go_cell | (with_reducible exact kept (World.below_alloc _ _) (by with_reducible assumption)))
  have f119 : w1.frozen? ⟨w.heap.size + 1 + 1, 0, none⟩ = false := keptf hb1 (by first | go_cell | (simp [go_sem]; done) | (with_reducible exact keptz (World.below_alloc _ _) (by with_reducible assumption) (by with_reducible assumption))) k119
  have k120 : w1.cell? ⟨w.heap.size + 1 + 1, 1, none⟩ = some (.int .u64 0) := kept hb1 (by first | go_cell | (with_reducible exact kept (World.below_alloc _ _) (by with_reducible assumption)))
  have f120 : w1.frozen? ⟨w.heap.size + 1 + 1, 1, none⟩ = false := keptf hb1 (by first | go_cell | (simp [go_sem]; done) | (with_reducible exact keptz (World.below_alloc _ _) (by with_reducible assumption) (by with_reducible assumption))) k120
  have k121 : w1.cell? ⟨w.heap.size + 1 + 1, 2, none⟩ = some (.int .u64 0) := kept hb1 (by first | go_cell | (with_reducible exact kept (World.below_alloc _ _) (by with_reducible assumption)))
  have f121 : w1.frozen? ⟨w.heap.size + 1 + 1, 2, none⟩ = false := keptf hb1 (by first | go_cell | (simp [go_sem]; done) | (with_reducible exact keptz (World.below_alloc _ _) (by with_reducible assumption) (by with_reducible assumption))) k121
  have k122 : w1.cell? ⟨w.heap.size + 1 + 1, 3, none⟩ = some (.int .u64 0) := kept hb1 (by first | go_cell | (with_reducible exact kept (World.below_alloc _ _) (by with_reducible assumption)))
  have f122 : w1.frozen? ⟨w.heap.size + 1 + 1, 3, none⟩ = false := keptf hb1 (by first | go_cell | (simp [go_sem]; done) | (with_reducible exact keptz (World.below_alloc _ _) (by with_reducible assumption) (by with_reducible assumption))) k122
  have x123 : Writ w1 (w.heap.size + 1 + 1) 4 := fun i hi => by
    rcases (by omega : i = 0 ∨ i = 1 ∨ i = 2 ∨ i = 3) with rfl | rfl | rfl | rfl
    · exact ⟨⟨_, k119⟩, f119⟩
    · exact ⟨⟨_, k120⟩, f120⟩
    · exact ⟨⟨_, k121⟩, f121⟩
    · exact ⟨⟨_, k122⟩, f122⟩
  clear hb1
  go_wp2_with fail
  refine (HC.out _).mono ?_
  rintro e w3 ⟨rfl, hb3⟩
  have b125 : Below w.heap.size w w3 := Below.trans (by go_grown) (Below.mono hb3 (by first | omega | (simp; done) | (simp; omega)))
  have z125 := Below.size hb3
  try simp only [World.size_alloc, World.size_drew, World.size_setCell] at z125
  have k126 : w3.cell? ⟨w.heap.size, 0, none⟩ = some (.int .u64 g.l) := kept hb3 (by first | go_cell | (with_reducible exact kept (World.below_alloc _ _) (by with_reducible assumption)))
  have k127 : w3.cell? ⟨w.heap.size, 1, none⟩ = some (.int .u64 g.lo) := kept hb3 (by first | go_cell | (with_reducible exact kept (World.below_alloc _ _) (by with_reducible assumption)))
  have k128 : w3.cell? ⟨w.heap.size, 2, none⟩ = some (.int .u64 g.hi) := kept hb3 (by first | go_cell | (with_reducible exact kept (World.below_alloc _ _) (by with_reducible assumption)))
  have k129 : w3.cell? ⟨w.heap.size, 3, none⟩ = some (.int .u64 g.a) := kept hb3 (by first | go_cell | (with_reducible exact kept (World.below_alloc _ _) (by with_reducible assumption)))
  have k131 : w3.cell? ⟨w.heap.size + 1, 0, none⟩ = some (.int .u64 c.l) := kept hb3 (by first | go_cell | (with_reducible exact kept (World.below_alloc _ _) (by with_reducible assumption)))
  have k132 : w3.cell? ⟨w.heap.size + 1, 1, none⟩ = some (.int .u64 c.lo) := kept hb3 (by first | go_cell | (with_reducible exact kept (World.below_alloc _ _) (by with_reducible assumption)))
  have k133 : w3.cell? ⟨w.heap.size + 1, 2, none⟩ = some (.int .u64 c.hi) := kept hb3 (by first | go_cell | (with_reducible exact kept (World.below_alloc _ _) (by with_reducible assumption)))
  have k134 : w3.cell? ⟨w.heap.size + 1, 3, none⟩ = some (.int .u64 c.a) := kept hb3 (by first | go_cell | (with_reducible exact kept (World.below_alloc _ _) (by with_reducible assumption)))
  have k136 : w3.cell? ⟨w.heap.size + 1 + 1, 0, none⟩ = some (.int .u64 0) := kept hb3 (by first | go_cell | (with_reducible exact kept (World.below_alloc _ _) (by with_reducible assumption)))
  have f136 : w3.frozen? ⟨w.heap.size + 1 + 1, 0, none⟩ = false := keptf hb3 (by first | go_cell | (simp [go_sem]; done) | (with_reducible exact keptz (World.below_alloc _ _) (by with_reducible assumption) (by with_reducible assumption))) k136
  have k137 : w3.cell? ⟨w.heap.size + 1 + 1, 1, none⟩ = some (.int .u64 0) := kept hb3 (by first | go_cell | (with_reducible exact kept (World.below_alloc _ _) (by with_reducible assumption)))
  have f137 : w3.frozen? ⟨w.heap.size + 1 + 1, 1, none⟩ = false := keptf hb3 (by first | go_cell | (simp [go_sem]; done) | (with_reducible exact keptz (World.below_alloc _ _) (by with_reducible assumption) (by with_reducible assumption))) k137
  have k138 : w3.cell? ⟨w.heap.size + 1 + 1, 2, none⟩ = some (.int .u64 0) := kept hb3 (by first | go_cell | (with_reducible exact kept (World.below_alloc _ _) (by with_reducible assumption)))
  have f138 : w3.frozen? ⟨w.heap.size + 1 + 1, 2, none⟩ = false := keptf hb3 (by first | go_cell | (simp [go_sem]; done) | (with_reducible exact keptz (World.below_alloc _ _) (by with_reducible assumption) (by with_reducible assumption))) k138
  have k139 : w3.cell? ⟨w.heap.size + 1 + 1, 3, none⟩ = some (.int .u64 0) := kept hb3 (by first | go_cell | (with_reducible exact kept (World.below_alloc _ _) (by with_reducible assumption)))
  have f139 : w3.frozen? ⟨w.heap.size + 1 + 1, 3, none⟩ = false := keptf hb3 (by first | go_cell | (simp [go_sem]; done) | (with_reducible exact keptz (World.below_alloc _ _) (by with_reducible assumption) (by with_reducible assumption))) k139
  have x140 : Writ w3 (w.heap.size + 1 + 1) 4 := fun i hi => by
    rcases (by omega : i = 0 ∨ i = 1 ∨ i = 2 ∨ i = 3) with rfl | rfl | rfl | rfl
    · exact ⟨⟨_, k136⟩, f136⟩
    · exact ⟨⟨_, k137⟩, f137⟩
    · exact ⟨⟨_, k138⟩, f138⟩
    · exact ⟨⟨_, k139⟩, f139⟩
  clear hb3 HG HC
  go_wp2_with fail
  refine bodyPost_ret (v := .tuple #[.agg #[.int .u64 0, .int .u64 0, .int .u64 0, .int .u64 0], .int .i64 2]) (by simp [results, Try.results31, go_sem, *]) rfl ?_
  exact ⟨rfl, by go_grown⟩
set_option maxHeartbeats 2000000 in
theorem refLower_less (g c : Kn) (w : World) (hg : g.ok = true) (hc : c.ok = true) (hs : g.l < c.l) :
    Calls Try.prog 31 #[.agg #[.int .u64 g.l, .int .u64 g.lo, .int .u64 g.hi, .int .u64 g.a], .agg #[.int .u64 c.l, .int .u64 c.lo, .int .u64 c.hi, .int .u64 c.a]] w
      fun e w' => e = .returned (.tuple #[.agg #[.int .u64 0, .int .u64 0, .int .u64 0, .int .u64 0], .int .i64 2]) ∧ Below w.heap.size w w' := by
  have hG := fun W : World => refRight_any g.l g.lo g.hi g.a W
  rw [show rightB g.l g.lo g.hi g.a = true from hg] at hG
  have HG := Lib.hid hG
  clear hG hg
  have hC := fun W : World => refRightCost_any c.l c.lo c.hi c.a W
  rw [show rightB c.l c.lo c.hi c.a = true from hc] at hC
  have HC := Lib.hid hC
  clear hC hc
  go_enter Try.func31, Try.ntmps31
  go_wp2_with fail
  refine (HG.out _).mono ?_
  rintro e w1 ⟨rfl, hb1⟩
  have b142 : Below w.heap.size w w1 := Below.trans (by go_grown) (Below.mono hb1 (by first | omega | (simp; done) | (simp; omega)))
  have z142 := Below.size hb1
  try simp only [World.size_alloc, World.size_drew, World.size_setCell] at z142
  have k143 : w1.cell? ⟨w.heap.size, 0, none⟩ = some (.int .u64 g.l) := kept hb1 (by first | go_cell | (with_reducible exact kept (World.below_alloc _ _) (by with_reducible assumption)))
  have k144 : w1.cell? ⟨w.heap.size, 1, none⟩ = some (.int .u64 g.lo) := kept hb1 (by first | go_cell | (with_reducible exact kept (World.below_alloc _ _) (by with_reducible assumption)))
  have k145 : w1.cell? ⟨w.heap.size, 2, none⟩ = some (.int .u64 g.hi) := kept hb1 (by first | go_cell | (with_reducible exact kept (World.below_alloc _ _) (by with_reducible assumption)))
  have k146 : w1.cell? ⟨w.heap.size, 3, none⟩ = some (.int .u64 g.a) := kept hb1 (by first | go_cell | (with_reducible exact kept (World.below_alloc _ _) (by with_reducible assumption)))
  have k148 : w1.cell? ⟨w.heap.size + 1, 0, none⟩ = some (.int .u64 c.l) := kept hb1 (by first | go_cell | (with_reducible exact kept (World.below_alloc _ _) (by with_reducible assumption)))
  have k149 : w1.cell? ⟨w.heap.size + 1, 1, none⟩ = some (.int .u64 c.lo) := kept hb1 (by first | go_cell | (with_reducible exact kept (World.below_alloc _ _) (by with_reducible assumption)))
  have k150 : w1.cell? ⟨w.heap.size + 1, 2, none⟩ = some (.int .u64 c.hi) := kept hb1 (by first | go_cell | (with_reducible exact kept (World.below_alloc _ _) (by with_reducible assumption)))
  have k151 : w1.cell? ⟨w.heap.size + 1, 3, none⟩ = some (.int .u64 c.a) := kept hb1 (by first | go_cell | (with_reducible exact kept (World.below_alloc _ _) (by with_reducible assumption)))
  have k153 : w1.cell? ⟨w.heap.size + 1 + 1, 0, none⟩ = some (.int .u64 0) := kept hb1 (by first | go_cell | (with_reducible exact kept (World.below_alloc _ _) (by with_reducible assumption)))
  have f153 : w1.frozen? ⟨w.heap.size + 1 + 1, 0, none⟩ = false := keptf hb1 (by first | go_cell | (simp [go_sem]; done) | (with_reducible exact keptz (World.below_alloc _ _) (by with_reducible assumption) (by with_reducible assumption))) k153
  have k154 : w1.cell? ⟨w.heap.size + 1 + 1, 1, none⟩ = some (.int .u64 0) := kept hb1 (by first | go_cell | (with_reducible exact kept (World.below_alloc _ _) (by with_reducible assumption)))
  have f154 : w1.frozen? ⟨w.heap.size + 1 + 1, 1, none⟩ = false := keptf hb1 (by first | go_cell | (simp [go_sem]; done) | (with_reducible exact keptz (World.below_alloc _ _) (by with_reducible assumption) (by with_reducible assumption))) k154
  have k155 : w1.cell? ⟨w.heap.size + 1 + 1, 2, none⟩ = some (.int .u64 0) := kept hb1 (by first | go_cell | (with_reducible exact kept (World.below_alloc _ _) (by with_reducible assumption)))
  have f155 : w1.frozen? ⟨w.heap.size + 1 + 1, 2, none⟩ = false := keptf hb1 (by first | go_cell | (simp [go_sem]; done) | (with_reducible exact keptz (World.below_alloc _ _) (by with_reducible assumption) (by with_reducible assumption))) k155
  have k156 : w1.cell? ⟨w.heap.size + 1 + 1, 3, none⟩ = some (.int .u64 0) := kept hb1 (by first | go_cell | (with_reducible exact kept (World.below_alloc _ _) (by with_reducible assumption)))
  have f156 : w1.frozen? ⟨w.heap.size + 1 + 1, 3, none⟩ = false := keptf hb1 (by first | go_cell | (simp [go_sem]; done) | (with_reducible exact keptz (World.below_alloc _ _) (by with_reducible assumption) (by with_reducible assumption))) k156
  have x157 : Writ w1 (w.heap.size + 1 + 1) 4 := fun i hi => by
    rcases (by omega : i = 0 ∨ i = 1 ∨ i = 2 ∨ i = 3) with rfl | rfl | rfl | rfl
    · exact ⟨⟨_, k153⟩, f153⟩
    · exact ⟨⟨_, k154⟩, f154⟩
    · exact ⟨⟨_, k155⟩, f155⟩
    · exact ⟨⟨_, k156⟩, f156⟩
  clear hb1
  go_wp2_with fail
  refine (HC.out _).mono ?_
  rintro e w3 ⟨rfl, hb3⟩
  have b159 : Below w.heap.size w w3 := Below.trans (by go_grown) (Below.mono hb3 (by first | omega | (simp; done) | (simp; omega)))
  have z159 := Below.size hb3
  try simp only [World.size_alloc, World.size_drew, World.size_setCell] at z159
  have k160 : w3.cell? ⟨w.heap.size, 0, none⟩ = some (.int .u64 g.l) := kept hb3 (by first | go_cell | (with_reducible exact kept (World.below_alloc _ _) (by with_reducible assumption)))
  have k161 : w3.cell? ⟨w.heap.size, 1, none⟩ = some (.int .u64 g.lo) := kept hb3 (by first | go_cell | (with_reducible exact kept (World.below_alloc _ _) (by with_reducible assumption)))
  have k162 : w3.cell? ⟨w.heap.size, 2, none⟩ = some (.int .u64 g.hi) := kept hb3 (by first | go_cell | (with_reducible exact kept (World.below_alloc _ _) (by with_reducible assumption)))
  have k163 : w3.cell? ⟨w.heap.size, 3, none⟩ = some (.int .u64 g.a) := kept hb3 (by first | go_cell | (with_reducible exact kept (World.below_alloc _ _) (by with_reducible assumption)))
  have k165 : w3.cell? ⟨w.heap.size + 1, 0, none⟩ = some (.int .u64 c.l) := kept hb3 (by first | go_cell | (with_reducible exact kept (World.below_alloc _ _) (by with_reducible assumption)))
  have k166 : w3.cell? ⟨w.heap.size + 1, 1, none⟩ = some (.int .u64 c.lo) := kept hb3 (by first | go_cell | (with_reducible exact kept (World.below_alloc _ _) (by with_reducible assumption)))
  have k167 : w3.cell? ⟨w.heap.size + 1, 2, none⟩ = some (.int .u64 c.hi) := kept hb3 (by first | go_cell | (with_reducible exact kept (World.below_alloc _ _) (by with_reducible assumption)))
  have k168 : w3.cell? ⟨w.heap.size + 1, 3, none⟩ = some (.int .u64 c.a) := kept hb3 (by first | go_cell | (with_reducible exact kept (World.below_alloc _ _) (by with_reducible assumption)))
  have k170 : w3.cell? ⟨w.heap.size + 1 + 1, 0, none⟩ = some (.int .u64 0) := kept hb3 (by first | go_cell | (with_reducible exact kept (World.below_alloc _ _) (by with_reducible assumption)))
  have f170 : w3.frozen? ⟨w.heap.size + 1 + 1, 0, none⟩ = false := keptf hb3 (by first | go_cell | (simp [go_sem]; done) | (with_reducible exact keptz (World.below_alloc _ _) (by with_reducible assumption) (by with_reducible assumption))) k170
  have k171 : w3.cell? ⟨w.heap.size + 1 + 1, 1, none⟩ = some (.int .u64 0) := kept hb3 (by first | go_cell | (with_reducible exact kept (World.below_alloc _ _) (by with_reducible assumption)))
  have f171 : w3.frozen? ⟨w.heap.size + 1 + 1, 1, none⟩ = false := keptf hb3 (by first | go_cell | (simp [go_sem]; done) | (with_reducible exact keptz (World.below_alloc _ _) (by with_reducible assumption) (by with_reducible assumption))) k171
  have k172 : w3.cell? ⟨w.heap.size + 1 + 1, 2, none⟩ = some (.int .u64 0) := kept hb3 (by first | go_cell | (with_reducible exact kept (World.below_alloc _ _) (by with_reducible assumption)))
  have f172 : w3.frozen? ⟨w.heap.size + 1 + 1, 2, none⟩ = false := keptf hb3 (by first | go_cell | (simp [go_sem]; done) | (with_reducible exact keptz (World.below_alloc _ _) (by with_reducible assumption) (by with_reducible assumption))) k172
  have k173 : w3.cell? ⟨w.heap.size + 1 + 1, 3, none⟩ = some (.int .u64 0) := kept hb3 (by first | go_cell | (with_reducible exact kept (World.below_alloc _ _) (by with_reducible assumption)))
  have f173 : w3.frozen? ⟨w.heap.size + 1 + 1, 3, none⟩ = false := keptf hb3 (by first | go_cell | (simp [go_sem]; done) | (with_reducible exact keptz (World.below_alloc _ _) (by with_reducible assumption) (by with_reducible assumption))) k173
  have x174 : Writ w3 (w.heap.size + 1 + 1) 4 := fun i hi => by
    rcases (by omega : i = 0 ∨ i = 1 ∨ i = 2 ∨ i = 3) with rfl | rfl | rfl | rfl
    · exact ⟨⟨_, k170⟩, f170⟩
    · exact ⟨⟨_, k171⟩, f171⟩
    · exact ⟨⟨_, k172⟩, f172⟩
    · exact ⟨⟨_, k173⟩, f173⟩
  clear hb3 HG HC
  go_wp2_with fail
  refine bodyPost_ret (v := .tuple #[.agg #[.int .u64 0, .int .u64 0, .int .u64 0, .int .u64 0], .int .i64 2]) (by simp [results, Try.results31, go_sem, *]) rfl ?_
  exact ⟨rfl, by go_grown⟩
end Go.Proofs.Ytiglfbnicihpmaa
