/- Plain: what is known, in order. -/
import Derived.Test.YtknkepokkenokaaTagV
set_option linter.unusedVariables false
set_option linter.unusedSimpArgs false
namespace Go.Proofs.Ytknkepokkenokaa
open Go.RowKit

theorem Own.eqv {H H' : List Block} {w : World} (h : Own H w) (e : H = H') : Own H' w := e ▸ h
def CntRel (xs : List (Int × Int)) (up : Int) (WC : World) (all i : Value) (wr : World) : Prop :=
  ∃ k : Nat, k ≤ xs.length ∧ i = .int .i64 k ∧ all = .int .i64 ((knownL up (xs.take k)).length : Nat) ∧ Below WC.heap.size WC wr
def lastI (L : List (Nat × Int)) : Nat → Int
  | 0 => -1
  | k + 1 => ((L.getD k (0, 0)).1 : Nat)
theorem lastI_at {L : List (Nat × Int)} {k : Nat} {x : Nat × Int} (h : L[k]? = some x) : lastI L (k + 1) = x.1 := by
  simp [lastI, List.getD_eq_getElem?_getD, h]
def knownF (up : Int) (n : Nat) (xs : List (Int × Int)) : List (Nat × Int) := (xs.zipIdx n).filterMap fun p => if belowI p.1.2 up then some (p.2, p.1.1) else none
theorem knownF_told {up : Int} : ∀ (xs : List (Int × Int)) (n : Nat) (x : Nat × Int), x ∈ knownF up n xs → n ≤ x.1 ∧ ∃ y, xs[x.1 - n]? = some y ∧ belowI y.2 up = true ∧ x.2 = y.1
  | [], n, x, h => by simp [knownF] at h
  | y :: xs, n, x, h => by
    unfold knownF at h
    rw [List.zipIdx_cons, List.filterMap_cons] at h
    have tl : x ∈ knownF up (n + 1) xs → n ≤ x.1 ∧ ∃ z, (y :: xs)[x.1 - n]? = some z ∧ belowI z.2 up = true ∧ x.2 = z.1 := fun h => by
      obtain ⟨h1, z, h2, h3⟩ := knownF_told xs (n + 1) x h
      exact ⟨by omega, z, by rw [show x.1 - n = (x.1 - (n + 1)) + 1 by omega]; exact h2, h3⟩
    by_cases hb : belowI y.2 up = true
    · simp only [hb, if_true] at h
      rcases List.mem_cons.1 h with rfl | h
      · exact ⟨Nat.le_refl _, y, by simp, hb, rfl⟩
      · exact tl h
    · simp only [hb, if_neg] at h
      exact tl h
theorem knownF_pair {up : Int} : ∀ (xs : List (Int × Int)) (n : Nat), (knownF up n xs).Pairwise (fun a b => a.1 < b.1)
  | [], n => by simp [knownF]
  | y :: xs, n => by
    have ih := knownF_pair (up := up) xs (n + 1)
    unfold knownF
    rw [List.zipIdx_cons, List.filterMap_cons]
    by_cases hb : belowI y.2 up = true
    · simp only [hb, if_true]
      exact List.pairwise_cons.2 ⟨fun z hz => by have := (knownF_told xs (n + 1) z hz).1; show n < z.1; omega, ih⟩
    · simp only [hb, if_neg]
      exact ih
theorem knownL_told {up : Int} {xs : List (Int × Int)} {k : Nat} {x : Nat × Int} (h : (knownL up xs)[k]? = some x) : ∃ y, xs[x.1]? = some y ∧ belowI y.2 up = true ∧ x.2 = y.1 := by
  have := knownF_told (up := up) xs 0 x (List.mem_of_getElem? h)
  obtain ⟨_, y, h1, h2⟩ := this
  exact ⟨y, by simpa using h1, h2⟩
theorem knownL_le (up : Int) (xs : List (Int × Int)) (k : Nat) : (knownL up (xs.take k)).length ≤ k := by
  unfold knownL
  refine Nat.le_trans (List.length_filterMap_le _ _) ?_
  simp
  omega
theorem knownL_len (up : Int) (xs : List (Int × Int)) : (knownL up xs).length ≤ xs.length := by
  have := knownL_le up xs xs.length
  rwa [List.take_of_length_le (Nat.le_refl _)] at this
theorem lastI_lt {up : Int} {xs : List (Int × Int)} {k : Nat} {x : Nat × Int} (h : (knownL up xs)[k]? = some x) : lastI (knownL up xs) k < x.1 := by
  cases k with
  | zero => simp [lastI]; omega
  | succ k =>
    have hp := knownF_pair (up := up) xs 0
    obtain ⟨hk, hx⟩ := List.getElem?_eq_some_iff.1 h
    have := List.pairwise_iff_getElem.1 hp k (k + 1) (Nat.lt_of_succ_lt hk) hk (Nat.lt_succ_self _)
    rw [lastI_at (List.getElem?_eq_getElem (Nat.lt_of_succ_lt hk))]
    rw [← hx]
    exact_mod_cast this
end Go.Proofs.Ytknkepokkenokaa
