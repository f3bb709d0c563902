/- Walks: prices. -/
import Derived.Test.YtclgoamhbakdlaaPriceD
import Derived.Test.YtclgoamhbakdlaaMapi
set_option linter.unusedVariables false
set_option linter.unusedSimpArgs false
namespace Go.Proofs.Ytclgoamhbakdlaa
open Go.RowKit

theorem per_any (c : Int) (w : World) : Calls Try.prog 38 #[.int .i64 c] w fun e w' => e = .returned (.func (.func 39) #[] #[.pointer (some ⟨w.heap.size, 0, none⟩)]) ∧ w' = w.alloc (.cells #[.int .i64 c] 3) := by
  go_enter Try.func38, Try.ntmps38
  go_wp2_with fail
  go_ret
  exact ⟨rfl, rfl⟩
theorem each_any (c : Int) (w : World) : Calls Try.prog 40 #[.int .i64 c] w fun e w' => e = .returned (.func (.func 41) #[] #[.pointer (some ⟨w.heap.size, 0, none⟩)]) ∧ w' = w.alloc (.cells #[.int .i64 c] 3) := by
  go_enter Try.func40, Try.ntmps40
  go_wp2_with fail
  go_ret
  exact ⟨rfl, rfl⟩
/-- What stands at a kind. -/
def pricesAt (w w' : World) : Prop :=
  w'.heap[w.heap.size]? = some (.map #[{ key := .int .i64 1, val := .func (.func 39) #[] #[.pointer (some ⟨w.heap.size + 1, 0, none⟩)], born := 0 }, { key := .int .i64 2, val := .func (.func 39) #[] #[.pointer (some ⟨w.heap.size + 2, 0, none⟩)], born := 1 }, { key := .int .i64 3, val := .func (.func 41) #[] #[.pointer (some ⟨w.heap.size + 3, 0, none⟩)], born := 2 }, { key := .int .i64 4, val := .func (.func 39) #[] #[.pointer (some ⟨w.heap.size + 4, 0, none⟩)], born := 3 }, { key := .int .i64 5, val := .func (.func 41) #[] #[.pointer (some ⟨w.heap.size + 5, 0, none⟩)], born := 4 }] 5) ∧ Below w.heap.size w w' ∧ w'.cell? ⟨w.heap.size + 1, 0, none⟩ = some (.int .i64 3) ∧ w'.cell? ⟨w.heap.size + 2, 0, none⟩ = some (.int .i64 6) ∧ w'.cell? ⟨w.heap.size + 3, 0, none⟩ = some (.int .i64 8) ∧ w'.cell? ⟨w.heap.size + 4, 0, none⟩ = some (.int .i64 2) ∧ w'.cell? ⟨w.heap.size + 5, 0, none⟩ = some (.int .i64 50)
/-- A step: one more block, one more entry. -/
theorem price_step {w w1 w2 : World} {es es' : Array MapEntry} {n n' c : Nat} {o : Obj} (hm : w1.heap[w.heap.size]? = some (.map es c)) (hb : Below w.heap.size w w1) (hs : w1.heap.size = w.heap.size + n) (hn : 1 ≤ n) (hn' : n' = n + 1) (h2 : w2 = (w1.alloc o).putObj w.heap.size (.map es' (c + 1))) :
    w2.heap[w.heap.size]? = some (.map es' (c + 1)) ∧ Below w.heap.size w w2 ∧ w2.heap.size = w.heap.size + n' ∧ w2.heap[w.heap.size + n]? = some o ∧ (∀ k, w.heap.size < k → k < w.heap.size + n → w2.heap[k]? = w1.heap[k]?) := by
  subst h2; subst hn'
  have e1 : (w1.alloc o).heap = w1.heap.push o := rfl
  have hlt : w.heap.size < (w1.alloc o).heap.size := by rw [World.size_alloc]; omega
  refine ⟨World.putObj_heap_same hlt, hb.trans ((((World.below_alloc w1 o).mono (by omega)).trans ((Below.refl _ _).grown (grownBy_putObj' _ _ _) (by omega) (fun k e => by cases e; omega)))), ?_, ?_, ?_⟩
  · show ((w1.alloc o).heap.setIfInBounds _ _).size = _
    rw [Array.size_setIfInBounds, World.size_alloc]; omega
  · rw [World.putObj_heap_other (by omega), e1, ← hs]; simp
  · intro k h1 h2
    rw [World.putObj_heap_other (by omega), e1, Array.getElem?_push]
    rw [if_neg (by omega)]
set_option maxHeartbeats 2000000 in
set_option maxRecDepth 20000 in
theorem prices_any (w : World) : Calls Try.prog 26 #[] w fun e w' => e = .returned (.map (some w.heap.size)) ∧ pricesAt w w' := by
  have hmm := @run_makeMap Try.prog
  have ht : Try.prog.underlying 62 = some (.map 35 31) := by kernel_rfl
  have hk : Try.prog.underlying 35 = some (.int .i64) := by kernel_rfl
  obtain ⟨w0, hw0⟩ : ∃ w0, w.alloc (.map #[] 0) = w0 := ⟨_, rfl⟩
  have m0 : w0.heap[w.heap.size]? = some (.map #[] 0) := by rw [← hw0]; exact World.alloc_heap_new _ _
  have b0 : Below w.heap.size w w0 := by rw [← hw0]; exact World.below_alloc _ _
  have s0 : w0.heap.size = w.heap.size + 1 := by rw [← hw0, World.size_alloc]
  go_enter Try.func26, Try.ntmps26
  go_wp2_with fail
  try rw [hw0]
  refine (per_any 3 _).mono ?_
  rintro e v1 ⟨rfl, hv1⟩
  have q1 : v1.heap[w.heap.size]? = some (.map #[] 0) := by rw [hv1]; exact (Below.heap_alloc _ _ _ (by omega)).trans m0
  have r1 := fun v => run_insert (x := 1) ht hk q1 (by rfl) v
  rw [s0]
  obtain ⟨w1, hw1⟩ : ∃ w1, v1.putObj w.heap.size (.map #[{ key := .int .i64 1, val := .func (.func 39) #[] #[.pointer (some ⟨w.heap.size + 1, 0, none⟩)], born := 0 }] (0 + 1)) = w1 := ⟨_, rfl⟩
  obtain ⟨m1, b1, s1, a1, o1⟩ := price_step (w2 := w1) (n := 1) (n' := 2) (es' := #[{ key := .int .i64 1, val := .func (.func 39) #[] #[.pointer (some ⟨w.heap.size + 1, 0, none⟩)], born := 0 }]) (c := 0) (o := .cells #[.int .i64 3] 3) m0 b0 s0 (by omega) rfl (by rw [← hw1, hv1])
  simp only [List.push_toArray, List.cons_append, List.nil_append, Nat.reduceAdd] at r1 hw1 m1 s1 a1
  clear q1 hv1
  go_wp2_with fail
  try rw [hw1]
  refine (per_any 6 _).mono ?_
  rintro e v2 ⟨rfl, hv2⟩
  have q2 : v2.heap[w.heap.size]? = some (.map #[{ key := .int .i64 1, val := .func (.func 39) #[] #[.pointer (some ⟨w.heap.size + 1, 0, none⟩)], born := 0 }] 1) := by rw [hv2]; exact (Below.heap_alloc _ _ _ (by omega)).trans m1
  have r2 := fun v => run_insert (x := 2) ht hk q2 (by rfl) v
  rw [s1]
  obtain ⟨w2, hw2⟩ : ∃ w2, v2.putObj w.heap.size (.map #[{ key := .int .i64 1, val := .func (.func 39) #[] #[.pointer (some ⟨w.heap.size + 1, 0, none⟩)], born := 0 }, { key := .int .i64 2, val := .func (.func 39) #[] #[.pointer (some ⟨w.heap.size + 2, 0, none⟩)], born := 1 }] (1 + 1)) = w2 := ⟨_, rfl⟩
  obtain ⟨m2, b2, s2, a2, o2⟩ := price_step (w2 := w2) (n := 2) (n' := 3) (es' := #[{ key := .int .i64 1, val := .func (.func 39) #[] #[.pointer (some ⟨w.heap.size + 1, 0, none⟩)], born := 0 }, { key := .int .i64 2, val := .func (.func 39) #[] #[.pointer (some ⟨w.heap.size + 2, 0, none⟩)], born := 1 }]) (c := 1) (o := .cells #[.int .i64 6] 3) m1 b1 s1 (by omega) rfl (by rw [← hw2, hv2])
  simp only [List.push_toArray, List.cons_append, List.nil_append, Nat.reduceAdd] at r2 hw2 m2 s2 a2
  clear q2 hv2
  go_wp2_with fail
  try rw [hw2]
  refine (each_any 8 _).mono ?_
  rintro e v3 ⟨rfl, hv3⟩
  have q3 : v3.heap[w.heap.size]? = some (.map #[{ key := .int .i64 1, val := .func (.func 39) #[] #[.pointer (some ⟨w.heap.size + 1, 0, none⟩)], born := 0 }, { key := .int .i64 2, val := .func (.func 39) #[] #[.pointer (some ⟨w.heap.size + 2, 0, none⟩)], born := 1 }] 2) := by rw [hv3]; exact (Below.heap_alloc _ _ _ (by omega)).trans m2
  have r3 := fun v => run_insert (x := 3) ht hk q3 (by rfl) v
  rw [s2]
  obtain ⟨w3, hw3⟩ : ∃ w3, v3.putObj w.heap.size (.map #[{ key := .int .i64 1, val := .func (.func 39) #[] #[.pointer (some ⟨w.heap.size + 1, 0, none⟩)], born := 0 }, { key := .int .i64 2, val := .func (.func 39) #[] #[.pointer (some ⟨w.heap.size + 2, 0, none⟩)], born := 1 }, { key := .int .i64 3, val := .func (.func 41) #[] #[.pointer (some ⟨w.heap.size + 3, 0, none⟩)], born := 2 }] (2 + 1)) = w3 := ⟨_, rfl⟩
  obtain ⟨m3, b3, s3, a3, o3⟩ := price_step (w2 := w3) (n := 3) (n' := 4) (es' := #[{ key := .int .i64 1, val := .func (.func 39) #[] #[.pointer (some ⟨w.heap.size + 1, 0, none⟩)], born := 0 }, { key := .int .i64 2, val := .func (.func 39) #[] #[.pointer (some ⟨w.heap.size + 2, 0, none⟩)], born := 1 }, { key := .int .i64 3, val := .func (.func 41) #[] #[.pointer (some ⟨w.heap.size + 3, 0, none⟩)], born := 2 }]) (c := 2) (o := .cells #[.int .i64 8] 3) m2 b2 s2 (by omega) rfl (by rw [← hw3, hv3])
  simp only [List.push_toArray, List.cons_append, List.nil_append, Nat.reduceAdd] at r3 hw3 m3 s3 a3
  clear q3 hv3
  go_wp2_with fail
  try rw [hw3]
  refine (per_any 2 _).mono ?_
  rintro e v4 ⟨rfl, hv4⟩
  have q4 : v4.heap[w.heap.size]? = some (.map #[{ key := .int .i64 1, val := .func (.func 39) #[] #[.pointer (some ⟨w.heap.size + 1, 0, none⟩)], born := 0 }, { key := .int .i64 2, val := .func (.func 39) #[] #[.pointer (some ⟨w.heap.size + 2, 0, none⟩)], born := 1 }, { key := .int .i64 3, val := .func (.func 41) #[] #[.pointer (some ⟨w.heap.size + 3, 0, none⟩)], born := 2 }] 3) := by rw [hv4]; exact (Below.heap_alloc _ _ _ (by omega)).trans m3
  have r4 := fun v => run_insert (x := 4) ht hk q4 (by rfl) v
  rw [s3]
  obtain ⟨w4, hw4⟩ : ∃ w4, v4.putObj w.heap.size (.map #[{ key := .int .i64 1, val := .func (.func 39) #[] #[.pointer (some ⟨w.heap.size + 1, 0, none⟩)], born := 0 }, { key := .int .i64 2, val := .func (.func 39) #[] #[.pointer (some ⟨w.heap.size + 2, 0, none⟩)], born := 1 }, { key := .int .i64 3, val := .func (.func 41) #[] #[.pointer (some ⟨w.heap.size + 3, 0, none⟩)], born := 2 }, { key := .int .i64 4, val := .func (.func 39) #[] #[.pointer (some ⟨w.heap.size + 4, 0, none⟩)], born := 3 }] (3 + 1)) = w4 := ⟨_, rfl⟩
  obtain ⟨m4, b4, s4, a4, o4⟩ := price_step (w2 := w4) (n := 4) (n' := 5) (es' := #[{ key := .int .i64 1, val := .func (.func 39) #[] #[.pointer (some ⟨w.heap.size + 1, 0, none⟩)], born := 0 }, { key := .int .i64 2, val := .func (.func 39) #[] #[.pointer (some ⟨w.heap.size + 2, 0, none⟩)], born := 1 }, { key := .int .i64 3, val := .func (.func 41) #[] #[.pointer (some ⟨w.heap.size + 3, 0, none⟩)], born := 2 }, { key := .int .i64 4, val := .func (.func 39) #[] #[.pointer (some ⟨w.heap.size + 4, 0, none⟩)], born := 3 }]) (c := 3) (o := .cells #[.int .i64 2] 3) m3 b3 s3 (by omega) rfl (by rw [← hw4, hv4])
  simp only [List.push_toArray, List.cons_append, List.nil_append, Nat.reduceAdd] at r4 hw4 m4 s4 a4
  clear q4 hv4
  go_wp2_with fail
  try rw [hw4]
  refine (each_any 50 _).mono ?_
  rintro e v5 ⟨rfl, hv5⟩
  have q5 : v5.heap[w.heap.size]? = some (.map #[{ key := .int .i64 1, val := .func (.func 39) #[] #[.pointer (some ⟨w.heap.size + 1, 0, none⟩)], born := 0 }, { key := .int .i64 2, val := .func (.func 39) #[] #[.pointer (some ⟨w.heap.size + 2, 0, none⟩)], born := 1 }, { key := .int .i64 3, val := .func (.func 41) #[] #[.pointer (some ⟨w.heap.size + 3, 0, none⟩)], born := 2 }, { key := .int .i64 4, val := .func (.func 39) #[] #[.pointer (some ⟨w.heap.size + 4, 0, none⟩)], born := 3 }] 4) := by rw [hv5]; exact (Below.heap_alloc _ _ _ (by omega)).trans m4
  have r5 := fun v => run_insert (x := 5) ht hk q5 (by rfl) v
  rw [s4]
  obtain ⟨w5, hw5⟩ : ∃ w5, v5.putObj w.heap.size (.map #[{ key := .int .i64 1, val := .func (.func 39) #[] #[.pointer (some ⟨w.heap.size + 1, 0, none⟩)], born := 0 }, { key := .int .i64 2, val := .func (.func 39) #[] #[.pointer (some ⟨w.heap.size + 2, 0, none⟩)], born := 1 }, { key := .int .i64 3, val := .func (.func 41) #[] #[.pointer (some ⟨w.heap.size + 3, 0, none⟩)], born := 2 }, { key := .int .i64 4, val := .func (.func 39) #[] #[.pointer (some ⟨w.heap.size + 4, 0, none⟩)], born := 3 }, { key := .int .i64 5, val := .func (.func 41) #[] #[.pointer (some ⟨w.heap.size + 5, 0, none⟩)], born := 4 }] (4 + 1)) = w5 := ⟨_, rfl⟩
  obtain ⟨m5, b5, s5, a5, o5⟩ := price_step (w2 := w5) (n := 5) (n' := 6) (es' := #[{ key := .int .i64 1, val := .func (.func 39) #[] #[.pointer (some ⟨w.heap.size + 1, 0, none⟩)], born := 0 }, { key := .int .i64 2, val := .func (.func 39) #[] #[.pointer (some ⟨w.heap.size + 2, 0, none⟩)], born := 1 }, { key := .int .i64 3, val := .func (.func 41) #[] #[.pointer (some ⟨w.heap.size + 3, 0, none⟩)], born := 2 }, { key := .int .i64 4, val := .func (.func 39) #[] #[.pointer (some ⟨w.heap.size + 4, 0, none⟩)], born := 3 }, { key := .int .i64 5, val := .func (.func 41) #[] #[.pointer (some ⟨w.heap.size + 5, 0, none⟩)], born := 4 }]) (c := 4) (o := .cells #[.int .i64 50] 3) m4 b4 s4 (by omega) rfl (by rw [← hw5, hv5])
  simp only [List.push_toArray, List.cons_append, List.nil_append, Nat.reduceAdd] at r5 hw5 m5 s5 a5
  clear q5 hv5
  go_wp2_with fail
  try rw [hw5]
  go_ret
  refine ⟨rfl, m5, b5, ?_, ?_, ?_, ?_, ?_⟩
  · exact (show Blk w5 _ _ _ from (o5 _ (by omega) (by omega)).trans ((o4 _ (by omega) (by omega)).trans ((o3 _ (by omega) (by omega)).trans ((o2 _ (by omega) (by omega)).trans a1)))).cell 0
  · exact (show Blk w5 _ _ _ from (o5 _ (by omega) (by omega)).trans ((o4 _ (by omega) (by omega)).trans ((o3 _ (by omega) (by omega)).trans a2))).cell 0
  · exact (show Blk w5 _ _ _ from (o5 _ (by omega) (by omega)).trans ((o4 _ (by omega) (by omega)).trans a3)).cell 0
  · exact (show Blk w5 _ _ _ from (o5 _ (by omega) (by omega)).trans a4).cell 0
  · exact (show Blk w5 _ _ _ from a5).cell 0

theorem perf_any (b : Nat) (c n : Int) (w : World) (hc : w.cell? ⟨b, 0, none⟩ = some (.int .i64 c)) (hc0 : 0 ≤ c) (hc1 : c ≤ 50) (h0 : 0 ≤ n) (h1 : n ≤ 16777216) :
    Calls Try.prog 39 #[.int .i64 n, .pointer (some ⟨b, 0, none⟩)] w fun e w' => e = .returned (.int .i64 (c * wordsI n)) ∧ Below w.heap.size w w' := by
  have hlt := World.block_lt_of_cell? w ⟨b, 0, none⟩ hc
  have hb2 : 0 ≤ c * wordsI n := Int.mul_nonneg hc0 (wordsI_nn h0)
  have hb3 : c * wordsI n ≤ 838860800 := by
    have := Int.mul_le_mul hc1 (wordsI_le h1) (wordsI_nn h0) (by omega)
    omega
  have hw : IntKind.i64.wrap (c * wordsI n) = c * wordsI n := by rw [IntKind.wrap_i64]; omega
  have HW := fun V : World => words_any n V h0 h1
  go_enter Try.func39, Try.ntmps39
  go_wp2_with fail
  refine wp_region_grow w.heap.size 4 0 0 [(0, 0, 16, 2), (1, 0, 32, 1), (2, 2, 64, 32), (3, 5, 128, 80), (4, 15, 8, 128)] [(.q 0, 1), (.p 1, 3), (.p 2, 7), (.p 3, 15)] [(4, 31)] _ (fun p hp => hp) (by first | omega | (simp; done) | (simp; omega)) (by kernel_rfl) (by kernel_rfl) (Own.nil w) ?_
  refine wpG_op (i := 0) (v := ?v1x0) rfl rfl (by rfl) (fun w hB hG K hK => ?h1x0) ?_
  case h1x0 =>
    have hc2 := (hB.cell (p := ⟨b, 0, none⟩) hlt).trans hc
    go_wp2_with fail
    exact hK _ (Below.refl _ _)
  simp only [List.set_cons_zero, List.set_cons_succ]
  refine wpG_move (i := 1) rfl rfl rfl (by rfl) rfl ?_
  simp only [List.set_cons_zero, List.set_cons_succ]
  refine wpG_pure (i := 2) (v := ?v1x2) rfl rfl (by rfl) (fun w hB hG K hK => ?h1x2) ?_
  case h1x2 =>
    go_wp2_with fail
    refine (HW _).mono ?_
    rintro e wx ⟨rfl, rfl⟩
    exact hK _ (Below.refl _ _)
  simp only [List.set_cons_zero, List.set_cons_succ]
  refine wpG_pure (i := 3) (v := ?v1x3) rfl rfl (by rfl) (fun w hB hG K hK => ?h1x3) ?_
  case h1x3 =>
    go_wp2_with fail
    exact hK _ (Below.refl _ _)
  simp only [List.set_cons_zero, List.set_cons_succ]
  refine wpG_nil (fun w1 hb1 hG1 => ?_)
  simp only [List.append_eq, List.cons_append, List.nil_append, List.drop_succ_cons, List.drop_zero, List.drop_nil]
  have O1 := Own.of hG1
  try simp only [List.setIfInBounds_toArray, List.set_cons_zero, List.set_cons_succ] at O1
  have bw1 : Below w.heap.size w w1 := Below.trans (by go_grown) (Below.mono hb1 (by first | omega | (simp; done) | (simp; omega)))
  have zw1 := Below.size hb1
  try simp only [World.size_alloc, World.size_drew, World.size_setCell] at zw1
  have HO1 := Lib.hid O1
  clear O1 hb1
  go_wp2_with fail
  go_ret
  exact ⟨rfl, by go_grown⟩

theorem eachf_any (b : Nat) (c n : Int) (w : World) (hc : w.cell? ⟨b, 0, none⟩ = some (.int .i64 c)) (hc0 : 0 ≤ c) (hc1 : c ≤ 50) (h0 : 0 ≤ n) (h1 : n ≤ 16777216) :
    Calls Try.prog 41 #[.int .i64 n, .pointer (some ⟨b, 0, none⟩)] w fun e w' => e = .returned (.int .i64 (c * n)) ∧ Below w.heap.size w w' := by
  have hb2 : 0 ≤ c * n := Int.mul_nonneg hc0 h0
  have hb3 : c * n ≤ 838860800 := by
    have := Int.mul_le_mul hc1 h1 h0 (by omega)
    omega
  have hw : IntKind.i64.wrap (c * n) = c * n := by rw [IntKind.wrap_i64]; omega
  go_enter Try.func41, Try.ntmps41
  go_wp2_with fail
  go_ret
  exact ⟨rfl, Below.refl _ _⟩
def priceI (k n : Int) : Int := if k = 1 then 3 * wordsI n else if k = 2 then 6 * wordsI n else if k = 3 then 8 * n else if k = 4 then 2 * wordsI n else 50 * n
theorem priceI_bd {k n : Int} (h0 : 0 ≤ n) (h1 : n ≤ 16777216) : 0 ≤ priceI k n ∧ priceI k n ≤ 838860800 := by
  have := wordsI_nn h0
  have := wordsI_le h1
  unfold priceI
  split <;> (try split) <;> (try split) <;> (try split) <;> omega

set_option maxHeartbeats 2000000 in
set_option maxRecDepth 20000 in
theorem of_1y (n : Int) (w : World) (h : okI n = true) : Calls Try.prog 14 #[.int .i64 1, .int .i64 n] w fun e w' => e = .returned (.tuple #[.int .u64 (priceI 1 n), .int .i64 0]) ∧ Below w.heap.size w w' := by
  have hn : 0 ≤ n ∧ n ≤ 16777216 := by simp only [okI, Bool.and_eq_true, decide_eq_true_eq] at h; exact h
  have ht : Try.prog.underlying 62 = some (.map 35 31) := by kernel_rfl
  have hk : Try.prog.underlying 35 = some (.int .i64) := by kernel_rfl
  have HR := fun (b : Nat) (V : World) hc => right_any b n V hc
  rw [h] at HR
  go_enter Try.func14, Try.ntmps14
  go_wp2_with fail
  refine (prices_any _).mono ?_
  rintro e w1 ⟨rfl, hm, hb, c1, c2, c3, c4, c5⟩
  have hsz := hb.size
  have hl := run_look (x := 1) (i := 0) (v := .func (.func 39) #[] #[.pointer (some ⟨w.heap.size + 1, 0, none⟩)]) ht hk hm (by rfl)
  clear hm
  go_wp2_with fail
  refine (HR _ _ (newc _ _ _ _ rfl)).mono ?_
  rintro e w' ⟨rfl, rfl⟩
  have hb2 := hb.trans ((World.below_alloc w1 (.cells #[.int .i64 n] 3)).mono hb.size)
  have hc := kept (World.below_alloc w1 (.cells #[.int .i64 n] 3)) c1
  have hpb := priceI_bd (k := 1) hn.1 hn.2
  have hwr : IntKind.u64.wrap (3 * wordsI n) = 3 * wordsI n := IntWalk.u64_in _ (by simp [priceI] at hpb; omega)
  go_wp2_with fail
  refine (perf_any _ 3 n _ hc (by omega) (by omega) hn.1 hn.2).mono ?_
  rintro e w2 ⟨rfl, hb3⟩
  have hb4 := hb2.trans (hb3.mono hb2.size)
  clear hb hb2 hb3 c1 c2 c3 c4 c5 hc hl hpb
  go_wp2_with fail
  go_ret2
  exact ⟨rfl, hb4⟩

set_option maxHeartbeats 2000000 in
set_option maxRecDepth 20000 in
theorem of_1n (n : Int) (w : World) (h : okI n = false) : Calls Try.prog 14 #[.int .i64 1, .int .i64 n] w fun e w' => e = .returned (.tuple #[.int .u64 0, .int .i64 2]) ∧ Below w.heap.size w w' := by
  have ht : Try.prog.underlying 62 = some (.map 35 31) := by kernel_rfl
  have hk : Try.prog.underlying 35 = some (.int .i64) := by kernel_rfl
  have HR := fun (b : Nat) (V : World) hc => right_any b n V hc
  rw [h] at HR
  go_enter Try.func14, Try.ntmps14
  go_wp2_with fail
  refine (prices_any _).mono ?_
  rintro e w1 ⟨rfl, hm, hb, c1, c2, c3, c4, c5⟩
  have hsz := hb.size
  have hl := run_look (x := 1) (i := 0) (v := .func (.func 39) #[] #[.pointer (some ⟨w.heap.size + 1, 0, none⟩)]) ht hk hm (by rfl)
  clear hm
  go_wp2_with fail
  refine (HR _ _ (newc _ _ _ _ rfl)).mono ?_
  rintro e w' ⟨rfl, rfl⟩
  go_wp2_with fail
  go_ret2
  exact ⟨rfl, by go_grown⟩

set_option maxHeartbeats 2000000 in
set_option maxRecDepth 20000 in
theorem of_2y (n : Int) (w : World) (h : okI n = true) : Calls Try.prog 14 #[.int .i64 2, .int .i64 n] w fun e w' => e = .returned (.tuple #[.int .u64 (priceI 2 n), .int .i64 0]) ∧ Below w.heap.size w w' := by
  have hn : 0 ≤ n ∧ n ≤ 16777216 := by simp only [okI, Bool.and_eq_true, decide_eq_true_eq] at h; exact h
  have ht : Try.prog.underlying 62 = some (.map 35 31) := by kernel_rfl
  have hk : Try.prog.underlying 35 = some (.int .i64) := by kernel_rfl
  have HR := fun (b : Nat) (V : World) hc => right_any b n V hc
  rw [h] at HR
  go_enter Try.func14, Try.ntmps14
  go_wp2_with fail
  refine (prices_any _).mono ?_
  rintro e w1 ⟨rfl, hm, hb, c1, c2, c3, c4, c5⟩
  have hsz := hb.size
  have hl := run_look (x := 2) (i := 1) (v := .func (.func 39) #[] #[.pointer (some ⟨w.heap.size + 2, 0, none⟩)]) ht hk hm (by rfl)
  clear hm
  go_wp2_with fail
  refine (HR _ _ (newc _ _ _ _ rfl)).mono ?_
  rintro e w' ⟨rfl, rfl⟩
  have hb2 := hb.trans ((World.below_alloc w1 (.cells #[.int .i64 n] 3)).mono hb.size)
  have hc := kept (World.below_alloc w1 (.cells #[.int .i64 n] 3)) c2
  have hpb := priceI_bd (k := 2) hn.1 hn.2
  have hwr : IntKind.u64.wrap (6 * wordsI n) = 6 * wordsI n := IntWalk.u64_in _ (by simp [priceI] at hpb; omega)
  go_wp2_with fail
  refine (perf_any _ 6 n _ hc (by omega) (by omega) hn.1 hn.2).mono ?_
  rintro e w2 ⟨rfl, hb3⟩
  have hb4 := hb2.trans (hb3.mono hb2.size)
  clear hb hb2 hb3 c1 c2 c3 c4 c5 hc hl hpb
  go_wp2_with fail
  go_ret2
  exact ⟨rfl, hb4⟩

set_option maxHeartbeats 2000000 in
set_option maxRecDepth 20000 in
theorem of_2n (n : Int) (w : World) (h : okI n = false) : Calls Try.prog 14 #[.int .i64 2, .int .i64 n] w fun e w' => e = .returned (.tuple #[.int .u64 0, .int .i64 2]) ∧ Below w.heap.size w w' := by
  have ht : Try.prog.underlying 62 = some (.map 35 31) := by kernel_rfl
  have hk : Try.prog.underlying 35 = some (.int .i64) := by kernel_rfl
  have HR := fun (b : Nat) (V : World) hc => right_any b n V hc
  rw [h] at HR
  go_enter Try.func14, Try.ntmps14
  go_wp2_with fail
  refine (prices_any _).mono ?_
  rintro e w1 ⟨rfl, hm, hb, c1, c2, c3, c4, c5⟩
  have hsz := hb.size
  have hl := run_look (x := 2) (i := 1) (v := .func (.func 39) #[] #[.pointer (some ⟨w.heap.size + 2, 0, none⟩)]) ht hk hm (by rfl)
  clear hm
  go_wp2_with fail
  refine (HR _ _ (newc _ _ _ _ rfl)).mono ?_
  rintro e w' ⟨rfl, rfl⟩
  go_wp2_with fail
  go_ret2
  exact ⟨rfl, by go_grown⟩

set_option maxHeartbeats 2000000 in
set_option maxRecDepth 20000 in
theorem of_3y (n : Int) (w : World) (h : okI n = true) : Calls Try.prog 14 #[.int .i64 3, .int .i64 n] w fun e w' => e = .returned (.tuple #[.int .u64 (priceI 3 n), .int .i64 0]) ∧ Below w.heap.size w w' := by
  have hn : 0 ≤ n ∧ n ≤ 16777216 := by simp only [okI, Bool.and_eq_true, decide_eq_true_eq] at h; exact h
  have ht : Try.prog.underlying 62 = some (.map 35 31) := by kernel_rfl
  have hk : Try.prog.underlying 35 = some (.int .i64) := by kernel_rfl
  have HR := fun (b : Nat) (V : World) hc => right_any b n V hc
  rw [h] at HR
  go_enter Try.func14, Try.ntmps14
  go_wp2_with fail
  refine (prices_any _).mono ?_
  rintro e w1 ⟨rfl, hm, hb, c1, c2, c3, c4, c5⟩
  have hsz := hb.size
  have hl := run_look (x := 3) (i := 2) (v := .func (.func 41) #[] #[.pointer (some ⟨w.heap.size + 3, 0, none⟩)]) ht hk hm (by rfl)
  clear hm
  go_wp2_with fail
  refine (HR _ _ (newc _ _ _ _ rfl)).mono ?_
  rintro e w' ⟨rfl, rfl⟩
  have hb2 := hb.trans ((World.below_alloc w1 (.cells #[.int .i64 n] 3)).mono hb.size)
  have hc := kept (World.below_alloc w1 (.cells #[.int .i64 n] 3)) c3
  have hpb := priceI_bd (k := 3) hn.1 hn.2
  have hwr : IntKind.u64.wrap (8 * n) = 8 * n := IntWalk.u64_in _ (by simp [priceI] at hpb; omega)
  go_wp2_with fail
  refine (eachf_any _ 8 n _ hc (by omega) (by omega) hn.1 hn.2).mono ?_
  rintro e w2 ⟨rfl, hb3⟩
  have hb4 := hb2.trans (hb3.mono hb2.size)
  clear hb hb2 hb3 c1 c2 c3 c4 c5 hc hl hpb
  go_wp2_with fail
  go_ret2
  exact ⟨rfl, hb4⟩

set_option maxHeartbeats 2000000 in
set_option maxRecDepth 20000 in
theorem of_3n (n : Int) (w : World) (h : okI n = false) : Calls Try.prog 14 #[.int .i64 3, .int .i64 n] w fun e w' => e = .returned (.tuple #[.int .u64 0, .int .i64 2]) ∧ Below w.heap.size w w' := by
  have ht : Try.prog.underlying 62 = some (.map 35 31) := by kernel_rfl
  have hk : Try.prog.underlying 35 = some (.int .i64) := by kernel_rfl
  have HR := fun (b : Nat) (V : World) hc => right_any b n V hc
  rw [h] at HR
  go_enter Try.func14, Try.ntmps14
  go_wp2_with fail
  refine (prices_any _).mono ?_
  rintro e w1 ⟨rfl, hm, hb, c1, c2, c3, c4, c5⟩
  have hsz := hb.size
  have hl := run_look (x := 3) (i := 2) (v := .func (.func 41) #[] #[.pointer (some ⟨w.heap.size + 3, 0, none⟩)]) ht hk hm (by rfl)
  clear hm
  go_wp2_with fail
  refine (HR _ _ (newc _ _ _ _ rfl)).mono ?_
  rintro e w' ⟨rfl, rfl⟩
  go_wp2_with fail
  go_ret2
  exact ⟨rfl, by go_grown⟩

set_option maxHeartbeats 2000000 in
set_option maxRecDepth 20000 in
theorem of_4y (n : Int) (w : World) (h : okI n = true) : Calls Try.prog 14 #[.int .i64 4, .int .i64 n] w fun e w' => e = .returned (.tuple #[.int .u64 (priceI 4 n), .int .i64 0]) ∧ Below w.heap.size w w' := by
  have hn : 0 ≤ n ∧ n ≤ 16777216 := by simp only [okI, Bool.and_eq_true, decide_eq_true_eq] at h; exact h
  have ht : Try.prog.underlying 62 = some (.map 35 31) := by kernel_rfl
  have hk : Try.prog.underlying 35 = some (.int .i64) := by kernel_rfl
  have HR := fun (b : Nat) (V : World) hc => right_any b n V hc
  rw [h] at HR
  go_enter Try.func14, Try.ntmps14
  go_wp2_with fail
  refine (prices_any _).mono ?_
  rintro e w1 ⟨rfl, hm, hb, c1, c2, c3, c4, c5⟩
  have hsz := hb.size
  have hl := run_look (x := 4) (i := 3) (v := .func (.func 39) #[] #[.pointer (some ⟨w.heap.size + 4, 0, none⟩)]) ht hk hm (by rfl)
  clear hm
  go_wp2_with fail
  refine (HR _ _ (newc _ _ _ _ rfl)).mono ?_
  rintro e w' ⟨rfl, rfl⟩
  have hb2 := hb.trans ((World.below_alloc w1 (.cells #[.int .i64 n] 3)).mono hb.size)
  have hc := kept (World.below_alloc w1 (.cells #[.int .i64 n] 3)) c4
  have hpb := priceI_bd (k := 4) hn.1 hn.2
  have hwr : IntKind.u64.wrap (2 * wordsI n) = 2 * wordsI n := IntWalk.u64_in _ (by simp [priceI] at hpb; omega)
  go_wp2_with fail
  refine (perf_any _ 2 n _ hc (by omega) (by omega) hn.1 hn.2).mono ?_
  rintro e w2 ⟨rfl, hb3⟩
  have hb4 := hb2.trans (hb3.mono hb2.size)
  clear hb hb2 hb3 c1 c2 c3 c4 c5 hc hl hpb
  go_wp2_with fail
  go_ret2
  exact ⟨rfl, hb4⟩

set_option maxHeartbeats 2000000 in
set_option maxRecDepth 20000 in
theorem of_4n (n : Int) (w : World) (h : okI n = false) : Calls Try.prog 14 #[.int .i64 4, .int .i64 n] w fun e w' => e = .returned (.tuple #[.int .u64 0, .int .i64 2]) ∧ Below w.heap.size w w' := by
  have ht : Try.prog.underlying 62 = some (.map 35 31) := by kernel_rfl
  have hk : Try.prog.underlying 35 = some (.int .i64) := by kernel_rfl
  have HR := fun (b : Nat) (V : World) hc => right_any b n V hc
  rw [h] at HR
  go_enter Try.func14, Try.ntmps14
  go_wp2_with fail
  refine (prices_any _).mono ?_
  rintro e w1 ⟨rfl, hm, hb, c1, c2, c3, c4, c5⟩
  have hsz := hb.size
  have hl := run_look (x := 4) (i := 3) (v := .func (.func 39) #[] #[.pointer (some ⟨w.heap.size + 4, 0, none⟩)]) ht hk hm (by rfl)
  clear hm
  go_wp2_with fail
  refine (HR _ _ (newc _ _ _ _ rfl)).mono ?_
  rintro e w' ⟨rfl, rfl⟩
  go_wp2_with fail
  go_ret2
  exact ⟨rfl, by go_grown⟩

set_option maxHeartbeats 2000000 in
set_option maxRecDepth 20000 in
theorem of_5y (n : Int) (w : World) (h : okI n = true) : Calls Try.prog 14 #[.int .i64 5, .int .i64 n] w fun e w' => e = .returned (.tuple #[.int .u64 (priceI 5 n), .int .i64 0]) ∧ Below w.heap.size w w' := by
  have hn : 0 ≤ n ∧ n ≤ 16777216 := by simp only [okI, Bool.and_eq_true, decide_eq_true_eq] at h; exact h
  have ht : Try.prog.underlying 62 = some (.map 35 31) := by kernel_rfl
  have hk : Try.prog.underlying 35 = some (.int .i64) := by kernel_rfl
  have HR := fun (b : Nat) (V : World) hc => right_any b n V hc
  rw [h] at HR
  go_enter Try.func14, Try.ntmps14
  go_wp2_with fail
  refine (prices_any _).mono ?_
  rintro e w1 ⟨rfl, hm, hb, c1, c2, c3, c4, c5⟩
  have hsz := hb.size
  have hl := run_look (x := 5) (i := 4) (v := .func (.func 41) #[] #[.pointer (some ⟨w.heap.size + 5, 0, none⟩)]) ht hk hm (by rfl)
  clear hm
  go_wp2_with fail
  refine (HR _ _ (newc _ _ _ _ rfl)).mono ?_
  rintro e w' ⟨rfl, rfl⟩
  have hb2 := hb.trans ((World.below_alloc w1 (.cells #[.int .i64 n] 3)).mono hb.size)
  have hc := kept (World.below_alloc w1 (.cells #[.int .i64 n] 3)) c5
  have hpb := priceI_bd (k := 5) hn.1 hn.2
  have hwr : IntKind.u64.wrap (50 * n) = 50 * n := IntWalk.u64_in _ (by simp [priceI] at hpb; omega)
  go_wp2_with fail
  refine (eachf_any _ 50 n _ hc (by omega) (by omega) hn.1 hn.2).mono ?_
  rintro e w2 ⟨rfl, hb3⟩
  have hb4 := hb2.trans (hb3.mono hb2.size)
  clear hb hb2 hb3 c1 c2 c3 c4 c5 hc hl hpb
  go_wp2_with fail
  go_ret2
  exact ⟨rfl, hb4⟩

set_option maxHeartbeats 2000000 in
set_option maxRecDepth 20000 in
theorem of_5n (n : Int) (w : World) (h : okI n = false) : Calls Try.prog 14 #[.int .i64 5, .int .i64 n] w fun e w' => e = .returned (.tuple #[.int .u64 0, .int .i64 2]) ∧ Below w.heap.size w w' := by
  have ht : Try.prog.underlying 62 = some (.map 35 31) := by kernel_rfl
  have hk : Try.prog.underlying 35 = some (.int .i64) := by kernel_rfl
  have HR := fun (b : Nat) (V : World) hc => right_any b n V hc
  rw [h] at HR
  go_enter Try.func14, Try.ntmps14
  go_wp2_with fail
  refine (prices_any _).mono ?_
  rintro e w1 ⟨rfl, hm, hb, c1, c2, c3, c4, c5⟩
  have hsz := hb.size
  have hl := run_look (x := 5) (i := 4) (v := .func (.func 41) #[] #[.pointer (some ⟨w.heap.size + 5, 0, none⟩)]) ht hk hm (by rfl)
  clear hm
  go_wp2_with fail
  refine (HR _ _ (newc _ _ _ _ rfl)).mono ?_
  rintro e w' ⟨rfl, rfl⟩
  go_wp2_with fail
  go_ret2
  exact ⟨rfl, by go_grown⟩

set_option maxHeartbeats 2000000 in
set_option maxRecDepth 20000 in
theorem of_none (k n : Int) (w : World) (h : okI n = okI n) (k1 : (k == 1) = false) (k2 : (k == 2) = false) (k3 : (k == 3) = false) (k4 : (k == 4) = false) (k5 : (k == 5) = false) :
    Calls Try.prog 14 #[.int .i64 k, .int .i64 n] w fun e w' => e = .returned (.tuple #[.int .u64 0, .int .i64 2]) ∧ Below w.heap.size w w' := by
  have ht : Try.prog.underlying 62 = some (.map 35 31) := by kernel_rfl
  have hk : Try.prog.underlying 35 = some (.int .i64) := by kernel_rfl
  have HR := fun (b : Nat) (V : World) hc => right_any b n V hc
  go_enter Try.func14, Try.ntmps14
  go_wp2_with fail
  refine (prices_any _).mono ?_
  rintro e w1 ⟨rfl, hm, hb, c1, c2, c3, c4, c5⟩
  have hsz := hb.size
  have hl := run_look_none (x := k) (z := .nilFunc) ht hk hm (by kernel_rfl) (by simp [Instr.findNow, Instr.sameNow, k1, k2, k3, k4, k5])
  clear hm
  go_wp2_with fail
  go_ret2
  exact ⟨rfl, by go_grown⟩
def inK (k : Int) : Bool := decide (1 ≤ k) && decide (k ≤ 5)
theorem of_any (k n : Int) (w : World) : Calls Try.prog 14 #[.int .i64 k, .int .i64 n] w fun e w' => e = .returned (.tuple #[.int .u64 (if inK k && okI n then priceI k n else 0), .int .i64 (if inK k && okI n then 0 else 2)]) ∧ Below w.heap.size w w' := by
  by_cases hk : 1 ≤ k ∧ k ≤ 5
  · have hi : inK k = true := by simp [inK, hk.1, hk.2]
    rw [hi, Bool.true_and]
    rcases (by omega : k = 1 ∨ k = 2 ∨ k = 3 ∨ k = 4 ∨ k = 5) with rfl | rfl | rfl | rfl | rfl
    all_goals rcases h : okI n with _ | _
    · exact of_1n n w h
    · exact of_1y n w h
    · exact of_2n n w h
    · exact of_2y n w h
    · exact of_3n n w h
    · exact of_3y n w h
    · exact of_4n n w h
    · exact of_4y n w h
    · exact of_5n n w h
    · exact of_5y n w h
  · have hi : inK k = false := by
      unfold inK
      rw [Bool.and_eq_false_iff]
      by_cases h1 : 1 ≤ k
      · exact .inr (decide_eq_false fun h2 => hk ⟨h1, h2⟩)
      · exact .inl (decide_eq_false h1)
    rw [hi, Bool.false_and]
    have hx : ∀ j : Int, 1 ≤ j → j ≤ 5 → (k == j) = false := fun j h1 h2 => by
      rw [beq_eq_false_iff_ne]; omega
    exact of_none k n w rfl (hx 1 (by omega) (by omega)) (hx 2 (by omega) (by omega)) (hx 3 (by omega) (by omega)) (hx 4 (by omega) (by omega)) (hx 5 (by omega) (by omega))
end Go.Proofs.Ytclgoamhbakdlaa
