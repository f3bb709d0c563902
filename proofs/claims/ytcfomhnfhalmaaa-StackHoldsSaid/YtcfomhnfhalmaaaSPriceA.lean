/- Walks: what numbers may be; words; costs. -/
import Derived.Test.YtcfomhnfhalmaaaProg
import Derived.Test.YtcfomhnfhalmaaaWords
import Derived.Test.YtcfomhnfhalmaaaSl
set_option linter.unusedVariables false
set_option linter.unusedSimpArgs false
namespace Go.Proofs.Ytcfomhnfhalmaaa
open Go.RowKit

def okI (n : Int) : Bool := decide (0 ≤ n) && decide (n ≤ 16777216)
theorem okI_yes {n : Int} (h0 : 0 ≤ n) (h1 : n ≤ 16777216) : okI n = true := by simp [okI, h0, h1]
theorem okI_no {n : Int} (h : ¬ (0 ≤ n ∧ n ≤ 16777216)) : okI n = false := by
  unfold okI
  rw [Bool.and_eq_false_iff]
  by_cases h0 : 0 ≤ n
  · exact .inr (decide_eq_false fun h1 => h ⟨h0, h1⟩)
  · exact .inl (decide_eq_false h0)
theorem right1_any (n : Int) (w : World) : Calls Try.prog 104 #[.int .i64 n] w fun e w' => e = .returned (.bool (!okI n)) ∧ w = w' := by
  by_cases h : n < 0
  · have d : decide (n < 0) = true := by simp [h]
    rw [okI_no (by omega)]
    go_enter Try.func104, Try.ntmps104
    go_wp2_with fail
    go_ret
    exact ⟨rfl, rfl⟩
  · have d : decide (n < 0) = false := by simp; omega
    by_cases h2 : 16777216 < n
    · have d2 : decide (16777216 < n) = true := by simp [h2]
      rw [okI_no (by omega)]
      go_enter Try.func104, Try.ntmps104
      go_wp2_with fail
      go_ret
      exact ⟨rfl, rfl⟩
    · have d2 : decide (16777216 < n) = false := by simp; omega
      rw [okI_yes (by omega) (by omega)]
      go_enter Try.func104, Try.ntmps104
      go_wp2_with fail
      go_ret
      exact ⟨rfl, rfl⟩
theorem index_any (b : Nat) (n : Int) (w : World) (hc : w.cell? ⟨b, 0, none⟩ = some (.int .i64 n)) :
    Calls Try.prog 107 #[.slice (some ⟨b, 0, none⟩) 1 1, .func (.func 104) #[] #[]] w fun e w' => e = .returned (.int .i64 (if okI n then -1 else 0)) ∧ w = w' := by
  rcases hok : okI n with _ | _
  · have HC := right1_any n
    rw [hok] at HC
    go_enter Try.func107, Try.ntmps107
    go_wp2_with fail
    go_loopw [8] (fun i wr => i = .int .i64 0 ∧ w = wr) (fun i _ => 1 - (intOf i).toNat)
    case atStart => first | exact ⟨rfl, rfl⟩ | simp
    case round =>
      obtain ⟨rfl, rfl⟩ := hrel
      go_wp2_with fail
      refine (HC _).mono ?_
      rintro e w' ⟨rfl, rfl⟩
      go_wp2_with fail
      go_ret
      exact ⟨rfl, by first | rfl | trivial⟩
  · have HC := right1_any n
    rw [hok] at HC
    go_enter Try.func107, Try.ntmps107
    go_wp2_with fail
    go_loopw [8] (fun i wr => ∃ k : Nat, k ≤ 1 ∧ i = .int .i64 k ∧ w = wr) (fun i _ => 1 - (intOf i).toNat)
    case atStart => exact ⟨0, by omega, rfl, rfl⟩
    case round =>
      obtain ⟨k, hk, rfl, rfl⟩ := hrel
      rcases (by omega : k = 0 ∨ k = 1) with rfl | rfl
      · go_wp2_with fail
        refine (HC _).mono ?_
        rintro e w' ⟨rfl, rfl⟩
        go_wp2_with fail
        exact ⟨⟨1, by omega, rfl, by first | rfl | trivial⟩, by simp [intOf]⟩
      · go_wp2_with fail
        go_ret
        exact ⟨rfl, rfl⟩
theorem contains_any (b : Nat) (n : Int) (w : World) (hc : w.cell? ⟨b, 0, none⟩ = some (.int .i64 n)) :
    Calls Try.prog 103 #[.slice (some ⟨b, 0, none⟩) 1 1, .func (.func 104) #[] #[]] w fun e w' => e = .returned (.bool (!okI n)) ∧ w = w' := by
  have HC := index_any b n w hc
  clear hc
  rcases hok : okI n with _ | _
  all_goals
    rw [hok] at HC
    go_enter Try.func103, Try.ntmps103
    go_wp2_with fail
    refine HC.mono ?_
    rintro e w' ⟨rfl, rfl⟩
    go_wp2_with fail
    go_ret
    exact ⟨rfl, rfl⟩
theorem right_any (b : Nat) (n : Int) (w : World) (hc : w.cell? ⟨b, 0, none⟩ = some (.int .i64 n)) :
    Calls Try.prog 96 #[.slice (some ⟨b, 0, none⟩) 1 1] w fun e w' => e = .returned (.bool (okI n)) ∧ w = w' := by
  have HC := contains_any b n w hc
  clear hc
  go_enter Try.func96, Try.ntmps96
  go_wp2_with fail
  refine HC.mono ?_
  rintro e w' ⟨rfl, rfl⟩
  go_wp2_with fail
  go_ret
  exact ⟨by simp, rfl⟩
def wordsI (n : Int) : Int := (n + 31) / 32
theorem wordsI_nn {n : Int} (h0 : 0 ≤ n) : 0 ≤ wordsI n := by unfold wordsI; omega
theorem wordsI_le {n : Int} (h1 : n ≤ 16777216) : wordsI n ≤ 16777216 := by unfold wordsI; omega
theorem words_any (n : Int) (w : World) (h0 : 0 ≤ n) (h1 : n ≤ 16777216) : Calls Try.prog 98 #[.int .i64 n] w fun e w' => e = .returned (.int .i64 (wordsI n)) ∧ w = w' := by
  go_enter Try.func98, Try.ntmps98
  go_wp2_with fail
  go_ret
  refine ⟨?_, rfl⟩
  simp only [wordsI]
  go_num
def costI (n : Int) : Int := 3 * n + n * n / 512
theorem sq_le {n : Int} (h0 : 0 ≤ n) (h1 : n ≤ 16777216) : 0 ≤ n * n ∧ n * n ≤ 281474976710656 := by
  refine ⟨Int.mul_nonneg h0 h0, ?_⟩
  have := Int.mul_le_mul h1 h1 h0 (by omega)
  omega
theorem costI_bd {n : Int} (h0 : 0 ≤ n) (h1 : n ≤ 16777216) : 0 ≤ costI n ∧ costI n ≤ 600000000000 := by
  have := sq_le h0 h1
  unfold costI; omega
theorem cost_any (n : Int) (w : World) (h0 : 0 ≤ n) (h1 : n ≤ 16777216) : Calls Try.prog 105 #[.int .i64 n] w fun e w' => e = .returned (.int .u64 (costI n)) ∧ w = w' := by
  obtain ⟨h2, h3⟩ := sq_le h0 h1
  have hw1 : IntKind.u64.wrap n = n := IntWalk.u64_in _ (by omega)
  have hw2 : IntKind.u64.wrap (n * n) = n * n := IntWalk.u64_in _ (by omega)
  have hw3 : IntKind.u64.wrap (3 * n) = 3 * n := IntWalk.u64_in _ (by omega)
  go_enter Try.func105, Try.ntmps105
  go_wp2_with fail
  go_ret
  exact ⟨rfl, rfl⟩
/-- A memory made greater. -/
theorem to_case (b : Nat) (s n m : Int) (w : World) (hc : w.cell? ⟨b, 0, none⟩ = some (.int .i64 s)) (hf : w.frozen? ⟨b, 0, none⟩ = false) (hs0 : 0 ≤ s) (hs1 : s ≤ 16777216) (h0 : 0 ≤ n) (h1 : n ≤ 16777216) (hm : (n ≤ s ∧ m = s) ∨ (s < n ∧ m = n)) :
    Calls Try.prog 97 #[.pointer (some ⟨b, 0, none⟩), .int .i64 n] w fun e w' => e = .returned (.int .u64 (IntKind.u64.wrap (costI m - costI s))) ∧ w' = w.setCell ⟨b, 0, none⟩ (.int .i64 m) := by
  have hlt := World.block_lt_of_cell? w ⟨b, 0, none⟩ hc
  have hc' : (w.setCell ⟨b, 0, none⟩ (.int .i64 m)).cell? ⟨b, 0, none⟩ = some (.int .i64 m) := World.cell?_setCell_same' _ _ _ (by rw [hc]; rfl)
  have HC := fun W => cost_any m W (by omega) (by omega)
  have HS := fun W => cost_any s W hs0 hs1
  rcases hm with ⟨h, rfl⟩ | ⟨h, rfl⟩
  all_goals
    go_enter Try.func97, Try.ntmps97
    go_wp2_with fail
    refine (HS _).mono ?_
    rintro e w' ⟨rfl, rfl⟩
    go_wp2_with fail
    refine (HC _).mono ?_
    rintro e w' ⟨rfl, rfl⟩
    go_wp2_with fail
    go_ret
    exact ⟨by first | rfl | (rw [Int.sub_self]; rfl), rfl⟩
theorem to_any (b : Nat) (s n : Int) (t : TypeId) (w : World) (hB : Blk w b #[.int .i64 s] t) (hs0 : 0 ≤ s) (hs1 : s ≤ 16777216) (h0 : 0 ≤ n) (h1 : n ≤ 16777216) :
    Calls Try.prog 97 #[.pointer (some ⟨b, 0, none⟩), .int .i64 n] w fun e w' => e = .returned (.int .u64 (IntKind.u64.wrap (costI (max s n) - costI s))) ∧ w' = w.setCell ⟨b, 0, none⟩ (.int .i64 (max s n)) :=
  to_case b s n (max s n) w (hB.cell 0) (hB.free 0) hs0 hs1 h0 h1 (by omega)
/-! ### The document's. -/
theorem refWords_any (n : Int) (w : World) (h0 : 0 ≤ n) (h1 : n ≤ 16777216) : Calls Try.prog 84 #[.int .i64 n] w fun e w' => e = .returned (.int .i64 (wordsI n)) ∧ w = w' := by
  go_enter Try.func84, Try.ntmps84
  go_wp2_with fail
  go_ret
  refine ⟨?_, rfl⟩
  simp only [wordsI]
  go_num
theorem refWOf_any (n : Int) (w : World) :
    Calls Try.prog 41 #[.int .u64 n] w fun e w' => e = .returned (.agg #[.int .u64 n, .int .u64 0, .int .u64 0, .int .u64 0]) ∧ Below w.heap.size w w' := by
  go_enter Try.func41, Try.ntmps41
  go_wp2_with fail
  refine bodyPost_ret (v := .agg #[.int .u64 n, .int .u64 0, .int .u64 0, .int .u64 0]) (by simp [results, Try.results41, go_sem, *]) rfl ?_
  exact ⟨rfl, by go_grown⟩
end Go.Proofs.Ytcfomhnfhalmaaa
