/- What the chapter's rows compare: facts on constants. No condition. -/
import Derived.Test.YtjmaigienigpnaaSpL
set_option linter.unusedVariables false
set_option linter.unusedSimpArgs false
namespace Go.Proofs.Ytjmaigienigpnaa
open Go.RowKit

set_option maxRecDepth 20000 in
set_option maxHeartbeats 2000000 in
theorem lawBelowW (n : Nat) (hn : n < 18446744073709551616) (w : World)  : Calls Try.prog 36 #[.int .u64 n] w fun e w' => e = .returned (W (0#256 - BitVec.ofNat 256 n)) ∧ Below w.heap.size w w' := by
  have HO := Lib.hid (fun V => refOfW n hn V)
  have HS := Lib.hid (fun V => refSubZ (BitVec.ofNat 256 n) V)
  generalize BitVec.ofNat 256 n = x at *
  generalize 0#256 - x = y at *
  go_enter Try.func36, Try.ntmps36
  go_wp2_with fail
  refine (HO.out _).mono ?_
  rintro e w1 ⟨rfl, hb1⟩
  have O1 := Own.grow' hb1 (Own.new (Own.nil w) (w.heap.size) (by first | rfl | simp))
  try simp only [List.setIfInBounds_toArray, List.set_cons_zero, List.set_cons_succ] at O1
  have bw1 : Below w.heap.size w w1 := Below.trans (by go_grown) (Below.mono hb1 (by first | omega | (simp; done) | (simp; omega)))
  have zw1 := Below.size hb1
  try simp only [World.size_alloc, World.size_drew, World.size_setCell] at zw1
  have c1x0 := Own.cell O1 0 rfl
  have f1x0 := Own.free O1 0 rfl
  have l1x0 := Own.lt O1 0 rfl
  have l1x0d0 := le_up 0 l1x0
  have l1x0d1 := le_up 1 l1x0
  simp only [upN] at l1x0d0 l1x0d1
  have HO1 := Lib.hid O1
  clear O1 hb1
  go_wp2_with fail
  refine (HS.out _).mono ?_
  rintro e w2 ⟨rfl, hb2⟩
  have O2 := Own.grow' hb2 HO1.out
  try simp only [List.setIfInBounds_toArray, List.set_cons_zero, List.set_cons_succ] at O2
  have bw2 : Below w.heap.size w w2 := Below.trans (by go_grown) (Below.mono hb2 (by first | omega | (simp; done) | (simp; omega)))
  have zw2 := Below.size hb2
  try simp only [World.size_alloc, World.size_drew, World.size_setCell] at zw2
  clear c1x0 f1x0 l1x0 l1x0d0 l1x0d1
  have c2x0 := Own.cell O2 0 rfl
  have f2x0 := Own.free O2 0 rfl
  have l2x0 := Own.lt O2 0 rfl
  have l2x0d0 := le_up 0 l2x0
  have l2x0d1 := le_up 1 l2x0
  simp only [upN] at l2x0d0 l2x0d1
  have HO2 := Lib.hid O2
  clear O2 hb2
  go_wp2_with fail
  refine bodyPost_ret (v := W y) (by simp [results, Try.results36, go_sem, *]) rfl ?_
  exact ⟨rfl, by go_grown⟩
theorem steps_12_18 : stepsL 12#256 18#256 = [12#256, 18#256, 12#256, 6#256] := by
  have h1 : ¬ (12#256 : BitVec 256) = 0#256 := by decide
  have h2 : ¬ (18#256 : BitVec 256) = 0#256 := by decide
  have h3 : ¬ (6#256 : BitVec 256) = 0#256 := by decide
  have m1 : modW 12#256 18#256 = 12#256 := by decide
  have m2 : modW 18#256 12#256 = 6#256 := by decide
  have m3 : modW 12#256 6#256 = 0#256 := by decide
  unfold stepsL
  rw [pairsL_cons _ h1, m1, pairsL_cons _ h2, m2, pairsL_cons _ h1, m3, pairsL_cons _ h3, pairsL_nil]
  rfl
theorem works_div : divW 7#256 2#256 = 3#256 := by decide
theorem works_mod : modW 7#256 0#256 = 0#256 := by decide
theorem works_sdiv : sdivW (0#256 - 7#256) 2#256 = 0#256 - 3#256 := by decide
theorem works_smod : smodW (0#256 - 7#256) 2#256 = 0#256 - 1#256 := by decide
theorem works_addm : addMW (0#256 - 1#256) 2#256 2#256 = 1#256 := by decide
theorem works_mulm : mulMW (BitVec.twoPow 256 255) 4#256 7#256 = 4#256 := by decide
end Go.Proofs.Ytjmaigienigpnaa
