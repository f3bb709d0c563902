/- Walks: Lower, whatever the gauge and the cost. -/
import Derived.Test.YtiglfbnicihpmaaSGaugeI
import Derived.Test.YtiglfbnicihpmaaSGaugeK
set_option linter.unusedVariables false
set_option linter.unusedSimpArgs false
namespace Go.Proofs.Ytiglfbnicihpmaa
open Go.RowKit

def lowVal (g c : Kn) : Value :=
  if g.ok && c.ok && decide (c.l ≤ g.l) then .tuple #[.agg #[.int .u64 (g.l - c.l), .int .u64 (g.lo - min g.lo c.hi), .int .u64 (g.hi - c.lo), .int .u64 (madeA (g.lo - min g.lo c.hi) (g.hi - c.lo) (orI g.a c.a))], .int .i64 0]
  else zeroErr
theorem lower_any (g c : Kn) (w : World) (hlo : 0 ≤ g.lo ∧ 0 ≤ c.lo) (ha : U g.a) :
    Calls Try.prog 29 #[.agg #[.int .u64 g.l, .int .u64 g.lo, .int .u64 g.hi, .int .u64 g.a], .agg #[.int .u64 c.l, .int .u64 c.lo, .int .u64 c.hi, .int .u64 c.a]] w
      fun e w' => e = .returned (lowVal g c) ∧ Below w.heap.size w w' := by
  cases hb : (g.ok && c.ok) with
  | false =>
    have hv : lowVal g c = zeroErr := by simp [lowVal, hb]
    rw [hv]
    exact lower_bad g c w hb
  | true =>
    by_cases hs : c.l ≤ g.l
    · have hv : lowVal g c = .tuple #[.agg #[.int .u64 (g.l - c.l), .int .u64 (g.lo - min g.lo c.hi), .int .u64 (g.hi - c.lo), .int .u64 (madeA (g.lo - min g.lo c.hi) (g.hi - c.lo) (orI g.a c.a))], .int .i64 0] := by simp [lowVal, hb, hs]
      rw [hv]
      exact lower_in g c w hb hlo ha hs
    · have hv : lowVal g c = zeroErr := by simp [lowVal, hs]
      rw [hv]
      exact lower_less g c w hb (by omega)
theorem refLower_any (g c : Kn) (w : World) (hlo : 0 ≤ g.lo ∧ 0 ≤ c.lo) :
    Calls Try.prog 31 #[.agg #[.int .u64 g.l, .int .u64 g.lo, .int .u64 g.hi, .int .u64 g.a], .agg #[.int .u64 c.l, .int .u64 c.lo, .int .u64 c.hi, .int .u64 c.a]] w
      fun e w' => e = .returned (lowVal g c) ∧ Below w.heap.size w w' := by
  cases hg : g.ok with
  | false =>
    have hv : lowVal g c = zeroErr := by simp [lowVal, hg]
    rw [hv]
    exact refLower_bad1 g c w hg
  | true =>
    cases hc : c.ok with
    | false =>
      have hv : lowVal g c = zeroErr := by simp [lowVal, hc]
      rw [hv]
      exact refLower_bad2 g c w hg hc
    | true =>
      by_cases hs : c.l ≤ g.l
      · by_cases hm : g.lo ≤ c.hi
        · have em : g.lo - min g.lo c.hi = 0 := by omega
          have hv : lowVal g c = .tuple #[.agg #[.int .u64 (g.l - c.l), .int .u64 0, .int .u64 (g.hi - c.lo), .int .u64 (madeA 0 (g.hi - c.lo) (orI g.a c.a))], .int .i64 0] := by
            unfold lowVal
            rw [em, hg, hc]
            simp [hs]
          rw [hv]
          exact refLower_in1 g c w hg hc hlo hs hm
        · have em : g.lo - min g.lo c.hi = g.lo - c.hi := by omega
          have hv : lowVal g c = .tuple #[.agg #[.int .u64 (g.l - c.l), .int .u64 (g.lo - c.hi), .int .u64 (g.hi - c.lo), .int .u64 (madeA (g.lo - c.hi) (g.hi - c.lo) (orI g.a c.a))], .int .i64 0] := by
            unfold lowVal
            rw [em, hg, hc]
            simp [hs]
          rw [hv]
          exact refLower_in2 g c w hg hc hlo hs (by omega)
      · have hv : lowVal g c = zeroErr := by simp [lowVal, hs]
        rw [hv]
        exact refLower_less g c w hg hc (by omega)
theorem lowVal_form (g h : Kn) : ∃ (k : Kn) (e : Int), lowVal g h = .tuple #[.agg #[.int .u64 k.l, .int .u64 k.lo, .int .u64 k.hi, .int .u64 k.a], .int .i64 e] := by
  unfold lowVal
  split
  · exact ⟨⟨_, _, _, _⟩, _, rfl⟩
  · exact ⟨⟨0, 0, 0, 0⟩, _, rfl⟩
end Go.Proofs.Ytiglfbnicihpmaa
