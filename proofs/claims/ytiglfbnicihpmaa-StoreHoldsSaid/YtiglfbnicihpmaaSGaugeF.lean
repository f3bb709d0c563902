/- Walks of package gauge: Add. -/
import Derived.Test.YtiglfbnicihpmaaSGaugeE
set_option linter.unusedVariables false
set_option linter.unusedSimpArgs false
namespace Go.Proofs.Ytiglfbnicihpmaa
open Go.RowKit

theorem knRow2 (w : World) (t : TypeId) (k q : Kn) : KnRow (w.alloc (.cells #[.int .u64 k.l, .int .u64 k.lo, .int .u64 k.hi, .int .u64 k.a, .int .u64 q.l, .int .u64 q.lo, .int .u64 q.hi, .int .u64 q.a] t)) w.heap.size [k, q] := fun i x hx => by
  match i, hx with
  | 0, hx => simp at hx; subst hx; exact ⟨newc _ _ _ _ rfl, newc _ _ _ _ rfl, newc _ _ _ _ rfl, newc _ _ _ _ rfl⟩
  | 1, hx => simp at hx; subst hx; exact ⟨newc _ _ _ _ rfl, newc _ _ _ _ rfl, newc _ _ _ _ rfl, newc _ _ _ _ rfl⟩
  | i + 2, hx => simp at hx
theorem fits_two (k q : Kn) (w : World) :
    Calls Try.prog 56 #[.slice (some ⟨w.heap.size, 0, none⟩) 2 2] (w.alloc (.cells #[.int .u64 k.l, .int .u64 k.lo, .int .u64 k.hi, .int .u64 k.a, .int .u64 q.l, .int .u64 q.lo, .int .u64 q.hi, .int .u64 q.a] 99))
      fun e w' => e = .returned (.bool (k.ok && q.ok)) ∧ Below (w.alloc (.cells #[.int .u64 k.l, .int .u64 k.lo, .int .u64 k.hi, .int .u64 k.a, .int .u64 q.l, .int .u64 q.lo, .int .u64 q.hi, .int .u64 q.a] 99)).heap.size (w.alloc (.cells #[.int .u64 k.l, .int .u64 k.lo, .int .u64 k.hi, .int .u64 k.a, .int .u64 q.l, .int .u64 q.lo, .int .u64 q.hi, .int .u64 q.a] 99)) w' := by
  have h := fits_any w.heap.size 2 2 [k, q] _ rfl (by omega) (by simp) (knRow2 w 99 k q)
  refine h.mono fun e w' he => ⟨?_, he.2⟩
  rw [he.1]; simp

/-- What Add comes to. -/
def addOk (g h : Kn) : Bool := g.ok && h.ok && decide (g.hi + h.hi ≤ 1099511627776)
def addVal (g h : Kn) : Value :=
  if addOk g h then .tuple #[.agg #[.int .u64 (g.l + h.l), .int .u64 (g.lo + h.lo), .int .u64 (g.hi + h.hi), .int .u64 (madeA (g.lo + h.lo) (g.hi + h.hi) (orI g.a h.a))], .int .i64 0]
  else .tuple #[.agg #[.int .u64 0, .int .u64 0, .int .u64 0, .int .u64 0], .int .i64 2]

set_option maxHeartbeats 4000000 in
theorem add_out (g h : Kn) (w : World) (hb : (g.ok && h.ok) = false) :
    Calls Try.prog 47 #[.agg #[.int .u64 g.l, .int .u64 g.lo, .int .u64 g.hi, .int .u64 g.a], .agg #[.int .u64 h.l, .int .u64 h.lo, .int .u64 h.hi, .int .u64 h.a]] w
      fun e w' => e = .returned (addVal g h) ∧ Below w.heap.size w w' := by
  have hv : addVal g h = .tuple #[.agg #[.int .u64 0, .int .u64 0, .int .u64 0, .int .u64 0], .int .i64 2] := by simp [addVal, addOk, hb]
  rw [hv]
  have hfit := fun W : World => fits_two g h W
  rw [hb] at hfit
  have HF := Lib.hid hfit
  clear hfit hb hv
  go_enter Try.func47, Try.ntmps47
  go_wp2_with fail
  have k1 : (((w.alloc (.cells #[.int .u64 g.l, .int .u64 g.lo, .int .u64 g.hi, .int .u64 g.a] 37)).alloc (.cells #[.int .u64 h.l, .int .u64 h.lo, .int .u64 h.hi, .int .u64 h.a] 37)).alloc (.cells #[.int .u64 0, .int .u64 0, .int .u64 0, .int .u64 0] 37)).cell? ⟨w.heap.size, 0, none⟩ = some (.int .u64 g.l) := by first | go_cell | (with_reducible exact kept (World.below_alloc _ _) (by with_reducible assumption)) | (simp [*, World.cell?_alloc_some]; done)
  have k2 : (((w.alloc (.cells #[.int .u64 g.l, .int .u64 g.lo, .int .u64 g.hi, .int .u64 g.a] 37)).alloc (.cells #[.int .u64 h.l, .int .u64 h.lo, .int .u64 h.hi, .int .u64 h.a] 37)).alloc (.cells #[.int .u64 0, .int .u64 0, .int .u64 0, .int .u64 0] 37)).cell? ⟨w.heap.size, 1, none⟩ = some (.int .u64 g.lo) := by first | go_cell | (with_reducible exact kept (World.below_alloc _ _) (by with_reducible assumption)) | (simp [*, World.cell?_alloc_some]; done)
  have k3 : (((w.alloc (.cells #[.int .u64 g.l, .int .u64 g.lo, .int .u64 g.hi, .int .u64 g.a] 37)).alloc (.cells #[.int .u64 h.l, .int .u64 h.lo, .int .u64 h.hi, .int .u64 h.a] 37)).alloc (.cells #[.int .u64 0, .int .u64 0, .int .u64 0, .int .u64 0] 37)).cell? ⟨w.heap.size, 2, none⟩ = some (.int .u64 g.hi) := by first | go_cell | (with_reducible exact kept (World.below_alloc _ _) (by with_reducible assumption)) | (simp [*, World.cell?_alloc_some]; done)
  have k4 : (((w.alloc (.cells #[.int .u64 g.l, .int .u64 g.lo, .int .u64 g.hi, .int .u64 g.a] 37)).alloc (.cells #[.int .u64 h.l, .int .u64 h.lo, .int .u64 h.hi, .int .u64 h.a] 37)).alloc (.cells #[.int .u64 0, .int .u64 0, .int .u64 0, .int .u64 0] 37)).cell? ⟨w.heap.size, 3, none⟩ = some (.int .u64 g.a) := by first | go_cell | (with_reducible exact kept (World.below_alloc _ _) (by with_reducible assumption)) | (simp [*, World.cell?_alloc_some]; done)
  have k5 : (((w.alloc (.cells #[.int .u64 g.l, .int .u64 g.lo, .int .u64 g.hi, .int .u64 g.a] 37)).alloc (.cells #[.int .u64 h.l, .int .u64 h.lo, .int .u64 h.hi, .int .u64 h.a] 37)).alloc (.cells #[.int .u64 0, .int .u64 0, .int .u64 0, .int .u64 0] 37)).cell? ⟨w.heap.size + 1, 0, none⟩ = some (.int .u64 h.l) := by first | go_cell | (with_reducible exact kept (World.below_alloc _ _) (by with_reducible assumption)) | (simp [*, World.cell?_alloc_some]; done)
  have k6 : (((w.alloc (.cells #[.int .u64 g.l, .int .u64 g.lo, .int .u64 g.hi, .int .u64 g.a] 37)).alloc (.cells #[.int .u64 h.l, .int .u64 h.lo, .int .u64 h.hi, .int .u64 h.a] 37)).alloc (.cells #[.int .u64 0, .int .u64 0, .int .u64 0, .int .u64 0] 37)).cell? ⟨w.heap.size + 1, 1, none⟩ = some (.int .u64 h.lo) := by first | go_cell | (with_reducible exact kept (World.below_alloc _ _) (by with_reducible assumption)) | (simp [*, World.cell?_alloc_some]; done)
  have k7 : (((w.alloc (.cells #[.int .u64 g.l, .int .u64 g.lo, .int .u64 g.hi, .int .u64 g.a] 37)).alloc (.cells #[.int .u64 h.l, .int .u64 h.lo, .int .u64 h.hi, .int .u64 h.a] 37)).alloc (.cells #[.int .u64 0, .int .u64 0, .int .u64 0, .int .u64 0] 37)).cell? ⟨w.heap.size + 1, 2, none⟩ = some (.int .u64 h.hi) := by first | go_cell | (with_reducible exact kept (World.below_alloc _ _) (by with_reducible assumption)) | (simp [*, World.cell?_alloc_some]; done)
  have k8 : (((w.alloc (.cells #[.int .u64 g.l, .int .u64 g.lo, .int .u64 g.hi, .int .u64 g.a] 37)).alloc (.cells #[.int .u64 h.l, .int .u64 h.lo, .int .u64 h.hi, .int .u64 h.a] 37)).alloc (.cells #[.int .u64 0, .int .u64 0, .int .u64 0, .int .u64 0] 37)).cell? ⟨w.heap.size + 1, 3, none⟩ = some (.int .u64 h.a) := by first | go_cell | (with_reducible exact kept (World.below_alloc _ _) (by with_reducible assumption)) | (simp [*, World.cell?_alloc_some]; done)
  have x9 : Writ (((w.alloc (.cells #[.int .u64 g.l, .int .u64 g.lo, .int .u64 g.hi, .int .u64 g.a] 37)).alloc (.cells #[.int .u64 h.l, .int .u64 h.lo, .int .u64 h.hi, .int .u64 h.a] 37)).alloc (.cells #[.int .u64 0, .int .u64 0, .int .u64 0, .int .u64 0] 37)) (w.heap.size + 1 + 1) 4 := by first | assumption | (exact Writ.kept (by assumption) (World.below_alloc _ _)) | (exact Writ.drew (by assumption)) | (exact writ_at _ _ _ _ _ (by simp) (by simp)) | (exact Writ.kept (writ_at _ _ _ _ _ (by simp) (by simp)) (World.below_alloc _ _)) | (exact Writ.kept (Writ.kept (writ_at _ _ _ _ _ (by simp) (by simp)) (World.below_alloc _ _)) (World.below_alloc _ _))
  have b10 : Below w.heap.size w (((w.alloc (.cells #[.int .u64 g.l, .int .u64 g.lo, .int .u64 g.hi, .int .u64 g.a] 37)).alloc (.cells #[.int .u64 h.l, .int .u64 h.lo, .int .u64 h.hi, .int .u64 h.a] 37)).alloc (.cells #[.int .u64 0, .int .u64 0, .int .u64 0, .int .u64 0] 37)) := by go_grown
  have z10 := Below.size b10
  generalize ((w.alloc (.cells #[.int .u64 g.l, .int .u64 g.lo, .int .u64 g.hi, .int .u64 g.a] 37)).alloc (.cells #[.int .u64 h.l, .int .u64 h.lo, .int .u64 h.hi, .int .u64 h.a] 37)).alloc (.cells #[.int .u64 0, .int .u64 0, .int .u64 0, .int .u64 0] 37) = W0 at *
  first | go_region_with (first | (go_at_call 57; refine (ofGauge_any _ _ _ _ _).mono ?_; rintro e w2 ⟨rfl, hb2⟩; have hE : Below W0.heap.size W0 w2 := (by first | (exact Below.trans (Below.drew (Below.refl W0.heap.size W0)) hb2) | (exact Below.trans hE (Below.mono hb2 hE.size)) | (exact Below.trans (hE.alloc hE.size _) (Below.mono hb2 (hE.alloc hE.size _).size)) | (exact Below.trans ((Below.refl W0.heap.size W0).alloc (Nat.le_refl _) _) (Below.mono hb2 (by simp))) | (exact Below.trans (by go_grown) (Below.mono hb2 (by first | omega | (simp; done) | (simp; omega))))); have hz2 := hE.size; have bE := Below.trans b10 (hE.mono z10); have zE := bE.size; have q11k1 := kept hE k1; have q11k2 := kept hE k2; have q11k3 := kept hE k3; have q11k4 := kept hE k4; have q11k5 := kept hE k5; have q11k6 := kept hE k6; have q11k7 := kept hE k7; have q11k8 := kept hE k8; have y11x9 := Writ.kept x9 hE; obtain ⟨⟨u11x9_0, c11x9_0⟩, f11x9_0⟩ := y11x9 0 (by omega); obtain ⟨⟨u11x9_1, c11x9_1⟩, f11x9_1⟩ := y11x9 1 (by omega); obtain ⟨⟨u11x9_2, c11x9_2⟩, f11x9_2⟩ := y11x9 2 (by omega); obtain ⟨⟨u11x9_3, c11x9_3⟩, f11x9_3⟩ := y11x9 3 (by omega)) | (go_at_call 56; refine (HF.out _).mono ?_; rintro e w2 ⟨rfl, hb2⟩; have hE : Below W0.heap.size W0 w2 := (by first | (exact Below.trans (Below.drew (Below.refl W0.heap.size W0)) hb2) | (exact Below.trans hE (Below.mono hb2 hE.size)) | (exact Below.trans (hE.alloc hE.size _) (Below.mono hb2 (hE.alloc hE.size _).size)) | (exact Below.trans ((Below.refl W0.heap.size W0).alloc (Nat.le_refl _) _) (Below.mono hb2 (by simp))) | (exact Below.trans (by go_grown) (Below.mono hb2 (by first | omega | (simp; done) | (simp; omega))))); have hz2 := hE.size; have bE := Below.trans b10 (hE.mono z10); have zE := bE.size; have q12k1 := kept hE k1; have q12k2 := kept hE k2; have q12k3 := kept hE k3; have q12k4 := kept hE k4; have q12k5 := kept hE k5; have q12k6 := kept hE k6; have q12k7 := kept hE k7; have q12k8 := kept hE k8; have y12x9 := Writ.kept x9 hE; obtain ⟨⟨u12x9_0, c12x9_0⟩, f12x9_0⟩ := y12x9 0 (by omega); obtain ⟨⟨u12x9_1, c12x9_1⟩, f12x9_1⟩ := y12x9 1 (by omega); obtain ⟨⟨u12x9_2, c12x9_2⟩, f12x9_2⟩ := y12x9 2 (by omega); obtain ⟨⟨u12x9_3, c12x9_3⟩, f12x9_3⟩ := y12x9 3 (by omega))) | fail
  all_goals clear HF
  all_goals go_wp2_with fail
  all_goals (refine bodyPost_ret (v := .tuple #[.agg #[.int .u64 0, .int .u64 0, .int .u64 0, .int .u64 0], .int .i64 2]) (by simp [results, Try.results47, go_sem, *]) rfl ?_)
  all_goals (refine ⟨rfl, ?_⟩; go_grown)

end Go.Proofs.Ytiglfbnicihpmaa
