/- Walks of package gauge: the document's answers; what compares them. -/
import Derived.Test.YtiglfbnicihpmaaSGaugeE
set_option linter.unusedVariables false
set_option linter.unusedSimpArgs false
namespace Go.Proofs.Ytiglfbnicihpmaa
open Go.RowKit

theorem refRightCost_any (l lo hi a : Int) (w : World) :
    Calls Try.prog 17 #[.agg #[.int .u64 l, .int .u64 lo, .int .u64 hi, .int .u64 a]] w fun e w' => e = .returned (.bool (rightB l lo hi a)) ∧ Below w.heap.size w w' := by
  go_enter Try.func17, Try.ntmps17
  go_wp2_with fail
  refine (refRight_any _ _ _ _ _).mono ?_
  rintro e w1 ⟨rfl, hb⟩
  have b1 : Below w.heap.size w w1 := Below.trans (by go_grown) (Below.mono hb (by first | omega | (simp; done) | (simp; omega)))
  have z1 := Below.size hb
  try simp only [World.size_alloc, World.size_drew, World.size_setCell] at z1
  go_wp2_with fail
  go_ret
  exact ⟨rfl, by assumption⟩
theorem refJoin_or (x y : Int) (w : World) : Calls Try.prog 24 #[.int .u64 x, .int .u64 y] w fun e w' => e = .returned (.int .u64 (orI x y)) ∧ w = w' := refJoin_any x y w
set_option maxHeartbeats 1000000 in
theorem refAdd_in (g h : Kn) (w : World) (hg : g.ok = true) (hh : h.ok = true) (hlo : 0 ≤ g.lo ∧ 0 ≤ h.lo) (ha : U g.a) (hs : g.hi + h.hi ≤ 1099511627776) :
    Calls Try.prog 52 #[.agg #[.int .u64 g.l, .int .u64 g.lo, .int .u64 g.hi, .int .u64 g.a], .agg #[.int .u64 h.l, .int .u64 h.lo, .int .u64 h.hi, .int .u64 h.a]] w
      fun e w' => e = .returned (.tuple #[.agg #[.int .u64 (g.l + h.l), .int .u64 (g.lo + h.lo), .int .u64 (g.hi + h.hi), .int .u64 (madeA (g.lo + h.lo) (g.hi + h.hi) (orI g.a h.a))], .int .i64 0]) ∧ Below w.heap.size w w' := by
  have gr := (oG_right _ _ _ _).1 hg
  have hr := (oG_right _ _ _ _).1 hh
  have hwl : IntKind.u64.wrap (g.l + h.l) = g.l + h.l := IntWalk.u64_in _ (by omega)
  have hwo : IntKind.u64.wrap (g.lo + h.lo) = g.lo + h.lo := IntWalk.u64_in _ (by omega)
  have hwh : IntKind.u64.wrap (g.hi + h.hi) = g.hi + h.hi := IntWalk.u64_in _ (by omega)
  have p0 : 0 ≤ g.hi := by omega
  have p1 : 0 ≤ h.hi := by omega
  have p2 : g.hi + h.hi ≤ 18446744073709551615 := by omega
  have hG := fun W : World => refRight_any g.l g.lo g.hi g.a W
  rw [show rightB g.l g.lo g.hi g.a = true from hg] at hG
  have hH := fun W : World => refRight_any h.l h.lo h.hi h.a W
  rw [show rightB h.l h.lo h.hi h.a = true from hh] at hH
  have HG := Lib.hid hG
  have HH := Lib.hid hH
  clear hG hH hg hh gr hr
  go_enter Try.func52, Try.ntmps52
  go_wp2_with fail
  refine (HG.out _).mono ?_
  rintro e w1 ⟨rfl, hb1⟩
  have b2 : Below w.heap.size w w1 := Below.trans (by go_grown) (Below.mono hb1 (by first | omega | (simp; done) | (simp; omega)))
  have z2 := Below.size hb1
  try simp only [World.size_alloc, World.size_drew, World.size_setCell] at z2
  have k3 : w1.cell? ⟨w.heap.size, 0, none⟩ = some (.int .u64 g.l) := kept hb1 (by first | go_cell | (with_reducible exact kept (World.below_alloc _ _) (by with_reducible assumption)))
  have k4 : w1.cell? ⟨w.heap.size, 1, none⟩ = some (.int .u64 g.lo) := kept hb1 (by first | go_cell | (with_reducible exact kept (World.below_alloc _ _) (by with_reducible assumption)))
  have k5 : w1.cell? ⟨w.heap.size, 2, none⟩ = some (.int .u64 g.hi) := kept hb1 (by first | go_cell | (with_reducible exact kept (World.below_alloc _ _) (by with_reducible assumption)))
  have k6 : w1.cell? ⟨w.heap.size, 3, none⟩ = some (.int .u64 g.a) := kept hb1 (by first | go_cell | (with_reducible exact kept (World.below_alloc _ _) (by with_reducible assumption)))
  have k8 : w1.cell? ⟨w.heap.size + 1, 0, none⟩ = some (.int .u64 h.l) := kept hb1 (by first | go_cell | (with_reducible exact kept (World.below_alloc _ _) (by with_reducible assumption)))
  have k9 : w1.cell? ⟨w.heap.size + 1, 1, none⟩ = some (.int .u64 h.lo) := kept hb1 (by first | go_cell | (with_reducible exact kept (World.below_alloc _ _) (by with_reducible assumption)))
  have k10 : w1.cell? ⟨w.heap.size + 1, 2, none⟩ = some (.int .u64 h.hi) := kept hb1 (by first | go_cell | (with_reducible exact kept (World.below_alloc _ _) (by with_reducible assumption)))
  have k11 : w1.cell? ⟨w.heap.size + 1, 3, none⟩ = some (.int .u64 h.a) := kept hb1 (by first | go_cell | (with_reducible exact kept (World.below_alloc _ _) (by with_reducible assumption)))
  have k13 : w1.cell? ⟨w.heap.size + 1 + 1, 0, none⟩ = some (.int .u64 0) := kept hb1 (by first | go_cell | (with_reducible exact kept (World.below_alloc _ _) (by with_reducible assumption)))
  have f13 : w1.frozen? ⟨w.heap.size + 1 + 1, 0, none⟩ = false := keptf hb1 (by first | go_cell | (simp [go_sem]; done) | (with_reducible exact keptz (World.below_alloc _ _) (by with_reducible assumption) (by with_reducible assumption))) k13
  have k14 : w1.cell? ⟨w.heap.size + 1 + 1, 1, none⟩ = some (.int .u64 0) := kept hb1 (by first | go_cell | (with_reducible exact kept (World.below_alloc _ _) (by with_reducible assumption)))
  have f14 : w1.frozen? ⟨w.heap.size + 1 + 1, 1, none⟩ = false := keptf hb1 (by first | go_cell | (simp [go_sem]; done) | (with_reducible exact keptz (World.below_alloc _ _) (by with_reducible assumption) (by with_reducible assumption))) k14
  have k15 : w1.cell? ⟨w.heap.size + 1 + 1, 2, none⟩ = some (.int .u64 0) := kept hb1 (by first | go_cell | (with_reducible exact kept (World.below_alloc _ _) (by with_reducible assumption)))
  have f15 : w1.frozen? ⟨w.heap.size + 1 + 1, 2, none⟩ = false := keptf hb1 (by first | go_cell | (simp [go_sem]; done) | (with_reducible exact keptz (World.below_alloc _ _) (by with_reducible assumption) (by with_reducible assumption))) k15
  have k16 : w1.cell? ⟨w.heap.size + 1 + 1, 3, none⟩ = some (.int .u64 0) := kept hb1 (by first | go_cell | (with_reducible exact kept (World.below_alloc _ _) (by with_reducible assumption)))
  have f16 : w1.frozen? ⟨w.heap.size + 1 + 1, 3, none⟩ = false := keptf hb1 (by first | go_cell | (simp [go_sem]; done) | (with_reducible exact keptz (World.below_alloc _ _) (by with_reducible assumption) (by with_reducible assumption))) k16
  have x17 : Writ w1 (w.heap.size + 1 + 1) 4 := fun i hi => by
    rcases (by omega : i = 0 ∨ i = 1 ∨ i = 2 ∨ i = 3) with rfl | rfl | rfl | rfl
    · exact ⟨⟨_, k13⟩, f13⟩
    · exact ⟨⟨_, k14⟩, f14⟩
    · exact ⟨⟨_, k15⟩, f15⟩
    · exact ⟨⟨_, k16⟩, f16⟩
  clear hb1
  go_wp2_with fail
  refine (HH.out _).mono ?_
  rintro e w3 ⟨rfl, hb3⟩
  have b19 : Below w.heap.size w w3 := Below.trans (by go_grown) (Below.mono hb3 (by first | omega | (simp; done) | (simp; omega)))
  have z19 := Below.size hb3
  try simp only [World.size_alloc, World.size_drew, World.size_setCell] at z19
  have k20 : w3.cell? ⟨w.heap.size, 0, none⟩ = some (.int .u64 g.l) := kept hb3 (by first | go_cell | (with_reducible exact kept (World.below_alloc _ _) (by with_reducible assumption)))
  have k21 : w3.cell? ⟨w.heap.size, 1, none⟩ = some (.int .u64 g.lo) := kept hb3 (by first | go_cell | (with_reducible exact kept (World.below_alloc _ _) (by with_reducible assumption)))
  have k22 : w3.cell? ⟨w.heap.size, 2, none⟩ = some (.int .u64 g.hi) := kept hb3 (by first | go_cell | (with_reducible exact kept (World.below_alloc _ _) (by with_reducible assumption)))
  have k23 : w3.cell? ⟨w.heap.size, 3, none⟩ = some (.int .u64 g.a) := kept hb3 (by first | go_cell | (with_reducible exact kept (World.below_alloc _ _) (by with_reducible assumption)))
  have k25 : w3.cell? ⟨w.heap.size + 1, 0, none⟩ = some (.int .u64 h.l) := kept hb3 (by first | go_cell | (with_reducible exact kept (World.below_alloc _ _) (by with_reducible assumption)))
  have k26 : w3.cell? ⟨w.heap.size + 1, 1, none⟩ = some (.int .u64 h.lo) := kept hb3 (by first | go_cell | (with_reducible exact kept (World.below_alloc _ _) (by with_reducible assumption)))
  have k27 : w3.cell? ⟨w.heap.size + 1, 2, none⟩ = some (.int .u64 h.hi) := kept hb3 (by first | go_cell | (with_reducible exact kept (World.below_alloc _ _) (by with_reducible assumption)))
  have k28 : w3.cell? ⟨w.heap.size + 1, 3, none⟩ = some (.int .u64 h.a) := kept hb3 (by first | go_cell | (with_reducible exact kept (World.below_alloc _ _) (by with_reducible assumption)))
  have k30 : w3.cell? ⟨w.heap.size + 1 + 1, 0, none⟩ = some (.int .u64 0) := kept hb3 (by first | go_cell | (with_reducible exact kept (World.below_alloc _ _) (by with_reducible assumption)))
  have f30 : w3.frozen? ⟨w.heap.size + 1 + 1, 0, none⟩ = false := keptf hb3 (by first | go_cell | (simp [go_sem]; done) | (with_reducible exact keptz (World.below_alloc _ _) (by with_reducible assumption) (by with_reducible assumption))) k30
  have k31 : w3.cell? ⟨w.heap.size + 1 + 1, 1, none⟩ = some (.int .u64 0) := kept hb3 (by first | go_cell | (with_reducible exact kept (World.below_alloc _ _) (by with_reducible assumption)))
  have f31 : w3.frozen? ⟨w.heap.size + 1 + 1, 1, none⟩ = false := keptf hb3 (by first | go_cell | (simp [go_sem]; done) | (with_reducible exact keptz (World.below_alloc _ _) (by with_reducible assumption) (by with_reducible assumption))) k31
  have k32 : w3.cell? ⟨w.heap.size + 1 + 1, 2, none⟩ = some (.int .u64 0) := kept hb3 (by first | go_cell | (with_reducible exact kept (World.below_alloc _ _) (by with_reducible assumption)))
  have f32 : w3.frozen? ⟨w.heap.size + 1 + 1, 2, none⟩ = false := keptf hb3 (by first | go_cell | (simp [go_sem]; done) | (with_reducible exact keptz (World.below_alloc _ _) (by with_reducible assumption) (by with_reducible assumption))) k32
  have k33 : w3.cell? ⟨w.heap.size + 1 + 1, 3, none⟩ = some (.int .u64 0) := kept hb3 (by first | go_cell | (with_reducible exact kept (World.below_alloc _ _) (by with_reducible assumption)))
  have f33 : w3.frozen? ⟨w.heap.size + 1 + 1, 3, none⟩ = false := keptf hb3 (by first | go_cell | (simp [go_sem]; done) | (with_reducible exact keptz (World.below_alloc _ _) (by with_reducible assumption) (by with_reducible assumption))) k33
  have x34 : Writ w3 (w.heap.size + 1 + 1) 4 := fun i hi => by
    rcases (by omega : i = 0 ∨ i = 1 ∨ i = 2 ∨ i = 3) with rfl | rfl | rfl | rfl
    · exact ⟨⟨_, k30⟩, f30⟩
    · exact ⟨⟨_, k31⟩, f31⟩
    · exact ⟨⟨_, k32⟩, f32⟩
    · exact ⟨⟨_, k33⟩, f33⟩
  clear hb3
  go_wp2_with fail
  clear HG HH
  have k36 : (w3).cell? ⟨w.heap.size, 0, none⟩ = some (.int .u64 g.l) := by first | go_cell | (with_reducible exact kept (World.below_alloc _ _) (by with_reducible assumption)) | (simp [*, World.cell?_alloc_some]; done)
  have k37 : (w3).cell? ⟨w.heap.size, 1, none⟩ = some (.int .u64 g.lo) := by first | go_cell | (with_reducible exact kept (World.below_alloc _ _) (by with_reducible assumption)) | (simp [*, World.cell?_alloc_some]; done)
  have k38 : (w3).cell? ⟨w.heap.size, 2, none⟩ = some (.int .u64 g.hi) := by first | go_cell | (with_reducible exact kept (World.below_alloc _ _) (by with_reducible assumption)) | (simp [*, World.cell?_alloc_some]; done)
  have k39 : (w3).cell? ⟨w.heap.size, 3, none⟩ = some (.int .u64 g.a) := by first | go_cell | (with_reducible exact kept (World.below_alloc _ _) (by with_reducible assumption)) | (simp [*, World.cell?_alloc_some]; done)
  have k40 : (w3).cell? ⟨w.heap.size + 1, 0, none⟩ = some (.int .u64 h.l) := by first | go_cell | (with_reducible exact kept (World.below_alloc _ _) (by with_reducible assumption)) | (simp [*, World.cell?_alloc_some]; done)
  have k41 : (w3).cell? ⟨w.heap.size + 1, 1, none⟩ = some (.int .u64 h.lo) := by first | go_cell | (with_reducible exact kept (World.below_alloc _ _) (by with_reducible assumption)) | (simp [*, World.cell?_alloc_some]; done)
  have k42 : (w3).cell? ⟨w.heap.size + 1, 2, none⟩ = some (.int .u64 h.hi) := by first | go_cell | (with_reducible exact kept (World.below_alloc _ _) (by with_reducible assumption)) | (simp [*, World.cell?_alloc_some]; done)
  have k43 : (w3).cell? ⟨w.heap.size + 1, 3, none⟩ = some (.int .u64 h.a) := by first | go_cell | (with_reducible exact kept (World.below_alloc _ _) (by with_reducible assumption)) | (simp [*, World.cell?_alloc_some]; done)
  have x44 : Writ (w3) (w.heap.size + 1 + 1) 4 := by first | assumption | (exact Writ.kept (by assumption) (World.below_alloc _ _)) | (exact Writ.drew (by assumption)) | (exact writ_at _ _ _ _ _ (by simp) (by simp)) | (exact Writ.kept (writ_at _ _ _ _ _ (by simp) (by simp)) (World.below_alloc _ _)) | (exact Writ.kept (Writ.kept (writ_at _ _ _ _ _ (by simp) (by simp)) (World.below_alloc _ _)) (World.below_alloc _ _))
  have b45 : Below w.heap.size w (w3) := by go_grown
  have z45 := Below.size b45
  first | go_region_held3 (fun W => W.cell? ⟨w.heap.size, 0, none⟩ = some (.int .u64 g.l) ∧ W.cell? ⟨w.heap.size, 1, none⟩ = some (.int .u64 g.lo) ∧ W.cell? ⟨w.heap.size, 2, none⟩ = some (.int .u64 g.hi) ∧ W.cell? ⟨w.heap.size, 3, none⟩ = some (.int .u64 g.a) ∧ W.cell? ⟨w.heap.size + 1, 0, none⟩ = some (.int .u64 h.l) ∧ W.cell? ⟨w.heap.size + 1, 1, none⟩ = some (.int .u64 h.lo) ∧ W.cell? ⟨w.heap.size + 1, 2, none⟩ = some (.int .u64 h.hi) ∧ W.cell? ⟨w.heap.size + 1, 3, none⟩ = some (.int .u64 h.a) ∧ Writ W (w.heap.size + 1 + 1) 4 ∧ Below w.heap.size w W ∧ w.heap.size ≤ W.heap.size ∧ w3.heap.size ≤ W.heap.size)
      ((go_split_ands; refine ⟨?_, ?_, ?_, ?_, ?_, ?_, ?_, ?_, ?_, ?_, ?_, ?_⟩ <;> first | (with_reducible assumption) | (with_reducible exact kept hb2 (by first | (with_reducible assumption) | (with_reducible exact drewc (by with_reducible assumption)))) | (with_reducible exact Writ.kept (by first | (with_reducible assumption) | (with_reducible exact Writ.drew (by with_reducible assumption))) hb2) | (with_reducible exact drewc (by with_reducible assumption)) | (with_reducible exact Writ.drew (by with_reducible assumption)) | (with_reducible exact kept (World.below_alloc _ _) (by first | (with_reducible assumption) | (with_reducible exact drewc (by with_reducible assumption)))) | (with_reducible exact Writ.kept (by first | (with_reducible assumption) | (with_reducible exact Writ.drew (by with_reducible assumption))) (World.below_alloc _ _)) | (with_reducible exact drewc (kept (World.below_alloc _ _) (by with_reducible assumption))) | (with_reducible exact Writ.drew (Writ.kept (by with_reducible assumption) (World.below_alloc _ _))) | (with_reducible refine Below.trans ?_ (Below.mono hb2 ?_) <;> first | (go_grown; done) | (exact Below.size (B := w.heap.size) (by go_grown)) | omega) | ((repeat (with_reducible refine far ?_ (by first | (simp; done) | omega | (simp; omega)))); first | (with_reducible assumption) | (with_reducible exact kept hb2 (by first | (with_reducible assumption) | (with_reducible exact drewc (by with_reducible assumption))))) | ((repeat (with_reducible refine Writ.set ?_ _ _)); with_reducible assumption) | (go_grown; done) | omega | (simp only [World.size_alloc, World.size_drew, World.size_setCell]; omega)))
      (first | (go_at_call 24; refine (refJoin_or _ _ _).mono ?_; rintro e w2 ⟨rfl, rfl⟩) | (go_at_call 53; go_split_ands; refine (refMade_any _ _ _ _ _).mono ?_; rintro e w2 ⟨rfl, hb2⟩; have hz2 := Below.size hb2; (try simp only [World.size_alloc, World.size_drew, World.size_setCell] at hz2); have y46 := Writ.kept (r := w.heap.size + 1 + 1) (n := 4) (by assumption) hb2; obtain ⟨⟨u46x0, c46x0⟩, f46x0⟩ := y46 0 (by omega); obtain ⟨⟨u46x1, c46x1⟩, f46x1⟩ := y46 1 (by omega); obtain ⟨⟨u46x2, c46x2⟩, f46x2⟩ := y46 2 (by omega); obtain ⟨⟨u46x3, c46x3⟩, f46x3⟩ := y46 3 (by omega))) | fail
  all_goals (go_split_ands; go_wp2_with fail)
  all_goals (refine bodyPost_ret (v := .tuple #[.agg #[.int .u64 (g.l + h.l), .int .u64 (g.lo + h.lo), .int .u64 (g.hi + h.hi), .int .u64 (madeA (g.lo + h.lo) (g.hi + h.hi) (orI g.a h.a))], .int .i64 0]) (by simp [results, Try.results52, go_sem, *]) rfl ?_)
  all_goals exact ⟨rfl, by with_reducible assumption⟩

def zeroErr : Value := .tuple #[.agg #[.int .u64 0, .int .u64 0, .int .u64 0, .int .u64 0], .int .i64 2]
theorem refAdd_out1 (g h : Kn) (w : World) (hg : g.ok = false) :
    Calls Try.prog 52 #[.agg #[.int .u64 g.l, .int .u64 g.lo, .int .u64 g.hi, .int .u64 g.a], .agg #[.int .u64 h.l, .int .u64 h.lo, .int .u64 h.hi, .int .u64 h.a]] w
      fun e w' => e = .returned zeroErr ∧ Below w.heap.size w w' := by
  have hG := fun W : World => refRight_any g.l g.lo g.hi g.a W
  rw [show rightB g.l g.lo g.hi g.a = false from hg] at hG
  have HG := Lib.hid hG
  clear hG hg
  go_enter Try.func52, Try.ntmps52
  go_wp2_with fail
  refine (HG.out _).mono ?_
  rintro e w1 ⟨rfl, hb1⟩
  have b47 : Below w.heap.size w w1 := Below.trans (by go_grown) (Below.mono hb1 (by first | omega | (simp; done) | (simp; omega)))
  have z47 := Below.size hb1
  try simp only [World.size_alloc, World.size_drew, World.size_setCell] at z47
  have k48 : w1.cell? ⟨w.heap.size + 1 + 1, 0, none⟩ = some (.int .u64 0) := kept hb1 (by first | go_cell | (with_reducible exact kept (World.below_alloc _ _) (by with_reducible assumption)))
  have f48 : w1.frozen? ⟨w.heap.size + 1 + 1, 0, none⟩ = false := keptf hb1 (by first | go_cell | (simp [go_sem]; done) | (with_reducible exact keptz (World.below_alloc _ _) (by with_reducible assumption) (by with_reducible assumption))) k48
  have k49 : w1.cell? ⟨w.heap.size + 1 + 1, 1, none⟩ = some (.int .u64 0) := kept hb1 (by first | go_cell | (with_reducible exact kept (World.below_alloc _ _) (by with_reducible assumption)))
  have f49 : w1.frozen? ⟨w.heap.size + 1 + 1, 1, none⟩ = false := keptf hb1 (by first | go_cell | (simp [go_sem]; done) | (with_reducible exact keptz (World.below_alloc _ _) (by with_reducible assumption) (by with_reducible assumption))) k49
  have k50 : w1.cell? ⟨w.heap.size + 1 + 1, 2, none⟩ = some (.int .u64 0) := kept hb1 (by first | go_cell | (with_reducible exact kept (World.below_alloc _ _) (by with_reducible assumption)))
  have f50 : w1.frozen? ⟨w.heap.size + 1 + 1, 2, none⟩ = false := keptf hb1 (by first | go_cell | (simp [go_sem]; done) | (with_reducible exact keptz (World.below_alloc _ _) (by with_reducible assumption) (by with_reducible assumption))) k50
  have k51 : w1.cell? ⟨w.heap.size + 1 + 1, 3, none⟩ = some (.int .u64 0) := kept hb1 (by first | go_cell | (with_reducible exact kept (World.below_alloc _ _) (by with_reducible assumption)))
  have f51 : w1.frozen? ⟨w.heap.size + 1 + 1, 3, none⟩ = false := keptf hb1 (by first | go_cell | (simp [go_sem]; done) | (with_reducible exact keptz (World.below_alloc _ _) (by with_reducible assumption) (by with_reducible assumption))) k51
  have x52 : Writ w1 (w.heap.size + 1 + 1) 4 := fun i hi => by
    rcases (by omega : i = 0 ∨ i = 1 ∨ i = 2 ∨ i = 3) with rfl | rfl | rfl | rfl
    · exact ⟨⟨_, k48⟩, f48⟩
    · exact ⟨⟨_, k49⟩, f49⟩
    · exact ⟨⟨_, k50⟩, f50⟩
    · exact ⟨⟨_, k51⟩, f51⟩
  clear hb1
  go_wp2_with fail
  refine bodyPost_ret (v := .tuple #[.agg #[.int .u64 0, .int .u64 0, .int .u64 0, .int .u64 0], .int .i64 2]) (by simp [results, Try.results52, go_sem, *]) rfl ?_
  exact ⟨rfl, by go_grown⟩
theorem refAdd_out2 (g h : Kn) (w : World) (hg : g.ok = true) (hh : h.ok = false) :
    Calls Try.prog 52 #[.agg #[.int .u64 g.l, .int .u64 g.lo, .int .u64 g.hi, .int .u64 g.a], .agg #[.int .u64 h.l, .int .u64 h.lo, .int .u64 h.hi, .int .u64 h.a]] w
      fun e w' => e = .returned zeroErr ∧ Below w.heap.size w w' := by
  have hG := fun W : World => refRight_any g.l g.lo g.hi g.a W
  rw [show rightB g.l g.lo g.hi g.a = true from hg] at hG
  have hH := fun W : World => refRight_any h.l h.lo h.hi h.a W
  rw [show rightB h.l h.lo h.hi h.a = false from hh] at hH
  have HG := Lib.hid hG
  have HH := Lib.hid hH
  clear hG hH hg hh
  go_enter Try.func52, Try.ntmps52
  go_wp2_with fail
  refine (HG.out _).mono ?_
  rintro e w1 ⟨rfl, hb1⟩
  have b54 : Below w.heap.size w w1 := Below.trans (by go_grown) (Below.mono hb1 (by first | omega | (simp; done) | (simp; omega)))
  have z54 := Below.size hb1
  try simp only [World.size_alloc, World.size_drew, World.size_setCell] at z54
  have k55 : w1.cell? ⟨w.heap.size + 1, 0, none⟩ = some (.int .u64 h.l) := kept hb1 (by first | go_cell | (with_reducible exact kept (World.below_alloc _ _) (by with_reducible assumption)))
  have k56 : w1.cell? ⟨w.heap.size + 1, 1, none⟩ = some (.int .u64 h.lo) := kept hb1 (by first | go_cell | (with_reducible exact kept (World.below_alloc _ _) (by with_reducible assumption)))
  have k57 : w1.cell? ⟨w.heap.size + 1, 2, none⟩ = some (.int .u64 h.hi) := kept hb1 (by first | go_cell | (with_reducible exact kept (World.below_alloc _ _) (by with_reducible assumption)))
  have k58 : w1.cell? ⟨w.heap.size + 1, 3, none⟩ = some (.int .u64 h.a) := kept hb1 (by first | go_cell | (with_reducible exact kept (World.below_alloc _ _) (by with_reducible assumption)))
  have k60 : w1.cell? ⟨w.heap.size + 1 + 1, 0, none⟩ = some (.int .u64 0) := kept hb1 (by first | go_cell | (with_reducible exact kept (World.below_alloc _ _) (by with_reducible assumption)))
  have f60 : w1.frozen? ⟨w.heap.size + 1 + 1, 0, none⟩ = false := keptf hb1 (by first | go_cell | (simp [go_sem]; done) | (with_reducible exact keptz (World.below_alloc _ _) (by with_reducible assumption) (by with_reducible assumption))) k60
  have k61 : w1.cell? ⟨w.heap.size + 1 + 1, 1, none⟩ = some (.int .u64 0) := kept hb1 (by first | go_cell | (with_reducible exact kept (World.below_alloc _ _) (by with_reducible assumption)))
  have f61 : w1.frozen? ⟨w.heap.size + 1 + 1, 1, none⟩ = false := keptf hb1 (by first | go_cell | (simp [go_sem]; done) | (with_reducible exact keptz (World.below_alloc _ _) (by with_reducible assumption) (by with_reducible assumption))) k61
  have k62 : w1.cell? ⟨w.heap.size + 1 + 1, 2, none⟩ = some (.int .u64 0) := kept hb1 (by first | go_cell | (with_reducible exact kept (World.below_alloc _ _) (by with_reducible assumption)))
  have f62 : w1.frozen? ⟨w.heap.size + 1 + 1, 2, none⟩ = false := keptf hb1 (by first | go_cell | (simp [go_sem]; done) | (with_reducible exact keptz (World.below_alloc _ _) (by with_reducible assumption) (by with_reducible assumption))) k62
  have k63 : w1.cell? ⟨w.heap.size + 1 + 1, 3, none⟩ = some (.int .u64 0) := kept hb1 (by first | go_cell | (with_reducible exact kept (World.below_alloc _ _) (by with_reducible assumption)))
  have f63 : w1.frozen? ⟨w.heap.size + 1 + 1, 3, none⟩ = false := keptf hb1 (by first | go_cell | (simp [go_sem]; done) | (with_reducible exact keptz (World.below_alloc _ _) (by with_reducible assumption) (by with_reducible assumption))) k63
  have x64 : Writ w1 (w.heap.size + 1 + 1) 4 := fun i hi => by
    rcases (by omega : i = 0 ∨ i = 1 ∨ i = 2 ∨ i = 3) with rfl | rfl | rfl | rfl
    · exact ⟨⟨_, k60⟩, f60⟩
    · exact ⟨⟨_, k61⟩, f61⟩
    · exact ⟨⟨_, k62⟩, f62⟩
    · exact ⟨⟨_, k63⟩, f63⟩
  clear hb1
  go_wp2_with fail
  refine (HH.out _).mono ?_
  rintro e w3 ⟨rfl, hb3⟩
  have b66 : Below w.heap.size w w3 := Below.trans (by go_grown) (Below.mono hb3 (by first | omega | (simp; done) | (simp; omega)))
  have z66 := Below.size hb3
  try simp only [World.size_alloc, World.size_drew, World.size_setCell] at z66
  have k67 : w3.cell? ⟨w.heap.size + 1 + 1, 0, none⟩ = some (.int .u64 0) := kept hb3 (by first | go_cell | (with_reducible exact kept (World.below_alloc _ _) (by with_reducible assumption)))
  have f67 : w3.frozen? ⟨w.heap.size + 1 + 1, 0, none⟩ = false := keptf hb3 (by first | go_cell | (simp [go_sem]; done) | (with_reducible exact keptz (World.below_alloc _ _) (by with_reducible assumption) (by with_reducible assumption))) k67
  have k68 : w3.cell? ⟨w.heap.size + 1 + 1, 1, none⟩ = some (.int .u64 0) := kept hb3 (by first | go_cell | (with_reducible exact kept (World.below_alloc _ _) (by with_reducible assumption)))
  have f68 : w3.frozen? ⟨w.heap.size + 1 + 1, 1, none⟩ = false := keptf hb3 (by first | go_cell | (simp [go_sem]; done) | (with_reducible exact keptz (World.below_alloc _ _) (by with_reducible assumption) (by with_reducible assumption))) k68
  have k69 : w3.cell? ⟨w.heap.size + 1 + 1, 2, none⟩ = some (.int .u64 0) := kept hb3 (by first | go_cell | (with_reducible exact kept (World.below_alloc _ _) (by with_reducible assumption)))
  have f69 : w3.frozen? ⟨w.heap.size + 1 + 1, 2, none⟩ = false := keptf hb3 (by first | go_cell | (simp [go_sem]; done) | (with_reducible exact keptz (World.below_alloc _ _) (by with_reducible assumption) (by with_reducible assumption))) k69
  have k70 : w3.cell? ⟨w.heap.size + 1 + 1, 3, none⟩ = some (.int .u64 0) := kept hb3 (by first | go_cell | (with_reducible exact kept (World.below_alloc _ _) (by with_reducible assumption)))
  have f70 : w3.frozen? ⟨w.heap.size + 1 + 1, 3, none⟩ = false := keptf hb3 (by first | go_cell | (simp [go_sem]; done) | (with_reducible exact keptz (World.below_alloc _ _) (by with_reducible assumption) (by with_reducible assumption))) k70
  have x71 : Writ w3 (w.heap.size + 1 + 1) 4 := fun i hi => by
    rcases (by omega : i = 0 ∨ i = 1 ∨ i = 2 ∨ i = 3) with rfl | rfl | rfl | rfl
    · exact ⟨⟨_, k67⟩, f67⟩
    · exact ⟨⟨_, k68⟩, f68⟩
    · exact ⟨⟨_, k69⟩, f69⟩
    · exact ⟨⟨_, k70⟩, f70⟩
  clear hb3
  go_wp2_with fail
  refine bodyPost_ret (v := .tuple #[.agg #[.int .u64 0, .int .u64 0, .int .u64 0, .int .u64 0], .int .i64 2]) (by simp [results, Try.results52, go_sem, *]) rfl ?_
  exact ⟨rfl, by go_grown⟩
theorem refAdd_out3 (g h : Kn) (w : World) (hg : g.ok = true) (hh : h.ok = true) (hlo : 0 ≤ g.lo ∧ 0 ≤ h.lo) (hs : 1099511627776 < g.hi + h.hi) :
    Calls Try.prog 52 #[.agg #[.int .u64 g.l, .int .u64 g.lo, .int .u64 g.hi, .int .u64 g.a], .agg #[.int .u64 h.l, .int .u64 h.lo, .int .u64 h.hi, .int .u64 h.a]] w
      fun e w' => e = .returned zeroErr ∧ Below w.heap.size w w' := by
  have gr := (oG_right _ _ _ _).1 hg
  have hr := (oG_right _ _ _ _).1 hh
  have hwh : IntKind.u64.wrap (g.hi + h.hi) = g.hi + h.hi := IntWalk.u64_in _ (by omega)
  have p0 : 0 ≤ g.hi := by omega
  have p1 : 0 ≤ h.hi := by omega
  have p2 : g.hi + h.hi ≤ 18446744073709551615 := by omega
  have hG := fun W : World => refRight_any g.l g.lo g.hi g.a W
  rw [show rightB g.l g.lo g.hi g.a = true from hg] at hG
  have hH := fun W : World => refRight_any h.l h.lo h.hi h.a W
  rw [show rightB h.l h.lo h.hi h.a = true from hh] at hH
  have HG := Lib.hid hG
  have HH := Lib.hid hH
  clear hG hH hg hh gr hr
  go_enter Try.func52, Try.ntmps52
  go_wp2_with fail
  refine (HG.out _).mono ?_
  rintro e w1 ⟨rfl, hb1⟩
  have b73 : Below w.heap.size w w1 := Below.trans (by go_grown) (Below.mono hb1 (by first | omega | (simp; done) | (simp; omega)))
  have z73 := Below.size hb1
  try simp only [World.size_alloc, World.size_drew, World.size_setCell] at z73
  have k74 : w1.cell? ⟨w.heap.size, 0, none⟩ = some (.int .u64 g.l) := kept hb1 (by first | go_cell | (with_reducible exact kept (World.below_alloc _ _) (by with_reducible assumption)))
  have k75 : w1.cell? ⟨w.heap.size, 1, none⟩ = some (.int .u64 g.lo) := kept hb1 (by first | go_cell | (with_reducible exact kept (World.below_alloc _ _) (by with_reducible assumption)))
  have k76 : w1.cell? ⟨w.heap.size, 2, none⟩ = some (.int .u64 g.hi) := kept hb1 (by first | go_cell | (with_reducible exact kept (World.below_alloc _ _) (by with_reducible assumption)))
  have k77 : w1.cell? ⟨w.heap.size, 3, none⟩ = some (.int .u64 g.a) := kept hb1 (by first | go_cell | (with_reducible exact kept (World.below_alloc _ _) (by with_reducible assumption)))
  have k79 : w1.cell? ⟨w.heap.size + 1, 0, none⟩ = some (.int .u64 h.l) := kept hb1 (by first | go_cell | (with_reducible exact kept (World.below_alloc _ _) (by with_reducible assumption)))
  have k80 : w1.cell? ⟨w.heap.size + 1, 1, none⟩ = some (.int .u64 h.lo) := kept hb1 (by first | go_cell | (with_reducible exact kept (World.below_alloc _ _) (by with_reducible assumption)))
  have k81 : w1.cell? ⟨w.heap.size + 1, 2, none⟩ = some (.int .u64 h.hi) := kept hb1 (by first | go_cell | (with_reducible exact kept (World.below_alloc _ _) (by with_reducible assumption)))
  have k82 : w1.cell? ⟨w.heap.size + 1, 3, none⟩ = some (.int .u64 h.a) := kept hb1 (by first | go_cell | (with_reducible exact kept (World.below_alloc _ _) (by with_reducible assumption)))
  have k84 : w1.cell? ⟨w.heap.size + 1 + 1, 0, none⟩ = some (.int .u64 0) := kept hb1 (by first | go_cell | (with_reducible exact kept (World.below_alloc _ _) (by with_reducible assumption)))
  have f84 : w1.frozen? ⟨w.heap.size + 1 + 1, 0, none⟩ = false := keptf hb1 (by first | go_cell | (simp [go_sem]; done) | (with_reducible exact keptz (World.below_alloc _ _) (by with_reducible assumption) (by with_reducible assumption))) k84
  have k85 : w1.cell? ⟨w.heap.size + 1 + 1, 1, none⟩ = some (.int .u64 0) := kept hb1 (by first | go_cell | (with_reducible exact kept (World.below_alloc _ _) (by with_reducible assumption)))
  have f85 : w1.frozen? ⟨w.heap.size + 1 + 1, 1, none⟩ = false := keptf hb1 (by first | go_cell | (simp [go_sem]; done) | (with_reducible exact keptz (World.below_alloc _ _) (by with_reducible assumption) (by with_reducible assumption))) k85
  have k86 : w1.cell? ⟨w.heap.size + 1 + 1, 2, none⟩ = some (.int .u64 0) := kept hb1 (by first | go_cell | (with_reducible exact kept (World.below_alloc _ _) (by with_reducible assumption)))
  have f86 : w1.frozen? ⟨w.heap.size + 1 + 1, 2, none⟩ = false := keptf hb1 (by first | go_cell | (simp [go_sem]; done) | (with_reducible exact keptz (World.below_alloc _ _) (by with_reducible assumption) (by with_reducible assumption))) k86
  have k87 : w1.cell? ⟨w.heap.size + 1 + 1, 3, none⟩ = some (.int .u64 0) := kept hb1 (by first | go_cell | (with_reducible exact kept (World.below_alloc _ _) (by with_reducible assumption)))
  have f87 : w1.frozen? ⟨w.heap.size + 1 + 1, 3, none⟩ = false := keptf hb1 (by first | go_cell | (simp [go_sem]; done) | (with_reducible exact keptz (World.below_alloc _ _) (by with_reducible assumption) (by with_reducible assumption))) k87
  have x88 : Writ w1 (w.heap.size + 1 + 1) 4 := fun i hi => by
    rcases (by omega : i = 0 ∨ i = 1 ∨ i = 2 ∨ i = 3) with rfl | rfl | rfl | rfl
    · exact ⟨⟨_, k84⟩, f84⟩
    · exact ⟨⟨_, k85⟩, f85⟩
    · exact ⟨⟨_, k86⟩, f86⟩
    · exact ⟨⟨_, k87⟩, f87⟩
  clear hb1
  go_wp2_with fail
  refine (HH.out _).mono ?_
  rintro e w3 ⟨rfl, hb3⟩
  have b90 : Below w.heap.size w w3 := Below.trans (by go_grown) (Below.mono hb3 (by first | omega | (simp; done) | (simp; omega)))
  have z90 := Below.size hb3
  try simp only [World.size_alloc, World.size_drew, World.size_setCell] at z90
  have k91 : w3.cell? ⟨w.heap.size, 0, none⟩ = some (.int .u64 g.l) := kept hb3 (by first | go_cell | (with_reducible exact kept (World.below_alloc _ _) (by with_reducible assumption)))
  have k92 : w3.cell? ⟨w.heap.size, 1, none⟩ = some (.int .u64 g.lo) := kept hb3 (by first | go_cell | (with_reducible exact kept (World.below_alloc _ _) (by with_reducible assumption)))
  have k93 : w3.cell? ⟨w.heap.size, 2, none⟩ = some (.int .u64 g.hi) := kept hb3 (by first | go_cell | (with_reducible exact kept (World.below_alloc _ _) (by with_reducible assumption)))
  have k94 : w3.cell? ⟨w.heap.size, 3, none⟩ = some (.int .u64 g.a) := kept hb3 (by first | go_cell | (with_reducible exact kept (World.below_alloc _ _) (by with_reducible assumption)))
  have k96 : w3.cell? ⟨w.heap.size + 1, 0, none⟩ = some (.int .u64 h.l) := kept hb3 (by first | go_cell | (with_reducible exact kept (World.below_alloc _ _) (by with_reducible assumption)))
  have k97 : w3.cell? ⟨w.heap.size + 1, 1, none⟩ = some (.int .u64 h.lo) := kept hb3 (by first | go_cell | (with_reducible exact kept (World.below_alloc _ _) (by with_reducible assumption)))
  have k98 : w3.cell? ⟨w.heap.size + 1, 2, none⟩ = some (.int .u64 h.hi) := kept hb3 (by first | go_cell | (with_reducible exact kept (World.below_alloc _ _) (by with_reducible assumption)))
  have k99 : w3.cell? ⟨w.heap.size + 1, 3, none⟩ = some (.int .u64 h.a) := kept hb3 (by first | go_cell | (with_reducible exact kept (World.below_alloc _ _) (by with_reducible assumption)))
  have k101 : w3.cell? ⟨w.heap.size + 1 + 1, 0, none⟩ = some (.int .u64 0) := kept hb3 (by first | go_cell | (with_reducible exact kept (World.below_alloc _ _) (by with_reducible assumption)))
  have f101 : w3.frozen? ⟨w.heap.size + 1 + 1, 0, none⟩ = false := keptf hb3 (by first | go_cell | (simp [go_sem]; done) | (with_reducible exact keptz (World.below_alloc _ _) (by with_reducible assumption) (by with_reducible assumption))) k101
  have k102 : w3.cell? ⟨w.heap.size + 1 + 1, 1, none⟩ = some (.int .u64 0) := kept hb3 (by first | go_cell | (with_reducible exact kept (World.below_alloc _ _) (by with_reducible assumption)))
  have f102 : w3.frozen? ⟨w.heap.size + 1 + 1, 1, none⟩ = false := keptf hb3 (by first | go_cell | (simp [go_sem]; done) | (with_reducible exact keptz (World.below_alloc _ _) (by with_reducible assumption) (by with_reducible assumption))) k102
  have k103 : w3.cell? ⟨w.heap.size + 1 + 1, 2, none⟩ = some (.int .u64 0) := kept hb3 (by first | go_cell | (with_reducible exact kept (World.below_alloc _ _) (by with_reducible assumption)))
  have f103 : w3.frozen? ⟨w.heap.size + 1 + 1, 2, none⟩ = false := keptf hb3 (by first | go_cell | (simp [go_sem]; done) | (with_reducible exact keptz (World.below_alloc _ _) (by with_reducible assumption) (by with_reducible assumption))) k103
  have k104 : w3.cell? ⟨w.heap.size + 1 + 1, 3, none⟩ = some (.int .u64 0) := kept hb3 (by first | go_cell | (with_reducible exact kept (World.below_alloc _ _) (by with_reducible assumption)))
  have f104 : w3.frozen? ⟨w.heap.size + 1 + 1, 3, none⟩ = false := keptf hb3 (by first | go_cell | (simp [go_sem]; done) | (with_reducible exact keptz (World.below_alloc _ _) (by with_reducible assumption) (by with_reducible assumption))) k104
  have x105 : Writ w3 (w.heap.size + 1 + 1) 4 := fun i hi => by
    rcases (by omega : i = 0 ∨ i = 1 ∨ i = 2 ∨ i = 3) with rfl | rfl | rfl | rfl
    · exact ⟨⟨_, k101⟩, f101⟩
    · exact ⟨⟨_, k102⟩, f102⟩
    · exact ⟨⟨_, k103⟩, f103⟩
    · exact ⟨⟨_, k104⟩, f104⟩
  clear hb3
  go_wp2_with fail
  refine bodyPost_ret (v := .tuple #[.agg #[.int .u64 0, .int .u64 0, .int .u64 0, .int .u64 0], .int .i64 2]) (by simp [results, Try.results52, go_sem, *]) rfl ?_
  exact ⟨rfl, by go_grown⟩
end Go.Proofs.Ytiglfbnicihpmaa
