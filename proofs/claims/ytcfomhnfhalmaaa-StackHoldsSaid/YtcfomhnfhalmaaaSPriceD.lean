/- What reaching costs: told at once. -/
import Derived.Test.YtcfomhnfhalmaaaSPriceC
set_option linter.unusedVariables false
set_option linter.unusedSimpArgs false
namespace Go.Proofs.Ytcfomhnfhalmaaa
open Go.RowKit

theorem reach_any (n : Int) (x y : BitVec 256) (w : World) :
    Calls Try.prog 81 #[.int .i64 n, W x, W y] w fun e w' => e = .returned (.tuple #[.int .i64 (reachN n x y), .int .u64 (reachC n x y), .int .i64 (reachE n x y)]) ∧ Below w.heap.size w w' := by
  unfold reachN reachC reachE
  rcases h : okI n with _ | _
  · exact reach_bad n x y w h
  have hn : 0 ≤ n ∧ n ≤ 16777216 := by simp only [okI, Bool.and_eq_true, decide_eq_true_eq] at h; exact h
  by_cases hy : L y 0 = 0 ∧ L y 1 = 0 ∧ L y 2 = 0 ∧ L y 3 = 0
  · have hy' := (nought_iff y).1 hy
    simp only [if_true, if_pos hy']
    exact reach_nought n x y w h hy
  have hy' : ¬ y = 0 := fun e => hy ((nought_iff y).2 e)
  simp only [if_true, if_neg hy']
  unfold endOk
  rcases h1 : smallB (x + y) with _ | _
  · exact reach_far1 n x y w h hy h1
  rcases h2 : smallB x with _ | _
  · exact reach_far2 n x y w h hy h1 h2
  by_cases h3 : L (x + y) 0 ≤ 16777216
  · by_cases h4 : L x 0 < L (x + y) 0
    · rw [decide_eq_true h3, decide_eq_true h4]
      have hw := wordsI_le (n := L (x + y) 0) h3
      have hm : max n (wordsI (L (x + y) 0)) ≤ 16777216 := by omega
      have hb := costI_bd (n := max n (wordsI (L (x + y) 0))) (by omega) hm
      have hb2 := costI_bd hn.1 hn.2
      have hmono := costI_mono (a := n) (b := max n (wordsI (L (x + y) 0))) hn.1 (by omega)
      have := reach_ok n x y w h hy h1 h2 h3 h4
      rw [IntWalk.u64_in _ (by omega)] at this
      exact this
    · rw [decide_eq_true h3, decide_eq_false h4]
      exact reach_far4 n x y w h hy h1 h2 h3 (by omega)
  · rw [decide_eq_false h3]
    exact reach_far3 n x y w h hy h1 h2 (by omega)
theorem wof (n : Int) (h : 0 ≤ n) (h1 : n < 18446744073709551616) : (Value.agg #[.int .u64 n, .int .u64 0, .int .u64 0, .int .u64 0]) = W (BitVec.ofNat 256 n.toNat) := by
  obtain ⟨h0, h1, h2, h3⟩ := small_parts n.toNat (by omega)
  show _ = Value.agg #[.int .u64 (L (BitVec.ofNat 256 n.toNat) 0), .int .u64 (L (BitVec.ofNat 256 n.toNat) 1), .int .u64 (L (BitVec.ofNat 256 n.toNat) 2), .int .u64 (L (BitVec.ofNat 256 n.toNat) 3)]
  rw [h0, h1, h2, h3, Int.toNat_of_nonneg h]
theorem wOf_any (n : Int) (w : World) (h : 0 ≤ n) (h1 : n < 18446744073709551616) :
    Calls Try.prog 41 #[.int .u64 n] w fun e w' => e = .returned (W (BitVec.ofNat 256 n.toNat)) ∧ Below w.heap.size w w' := by
  have := refWOf_any n w
  rwa [wof n h h1] at this
end Go.Proofs.Ytcfomhnfhalmaaa
