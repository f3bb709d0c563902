/- Walks: sums of words; which are small. -/
import Derived.Test.YtcfomhnfhalmaaaSPriceA
import Derived.Test.YtcfomhnfhalmaaaSWordA
import Derived.Laws.StructEq
import Derived.Laws.Cover2
set_option linter.unusedVariables false
set_option linter.unusedSimpArgs false
namespace Go.Proofs.Ytcfomhnfhalmaaa
open Go.RowKit

theorem eqWord (a b c d a' b' c' d' : Int) (k : Nat) (w : World) : (Op.equalIn (k + 2) 32 (.agg #[.int .u64 a, .int .u64 b, .int .u64 c, .int .u64 d]) (.agg #[.int .u64 a', .int .u64 b', .int .u64 c', .int .u64 d'])).run Try.prog w =
    .ok (decide (a = a' ∧ b = b' ∧ c = c' ∧ d = d')) w := by
  rw [Op.equalIn]
  simp only [Sem.run_bind, run_underlying (show Try.prog.underlying 32 = some (.array 4 30) by kernel_rfl), Result.andThen_ok]
  simp only [Std.Legacy.Range.forIn_eq_forIn_range', Std.Legacy.Range.size, Nat.sub_zero, Nat.add_sub_cancel, Nat.div_one, List.range'_succ, List.range'_zero, List.forIn_cons, List.forIn_nil]
  go_simp
  by_cases h1 : a = a' <;> by_cases h2 : b = b' <;> by_cases h3 : c = c' <;> by_cases h4 : d = d' <;> simp [h1, h2, h3, h4]
theorem eqWord0 (a b c d a' b' c' d' : Int) (w : World) : (Op.equalIn 10000 32 (.agg #[.int .u64 a, .int .u64 b, .int .u64 c, .int .u64 d]) (.agg #[.int .u64 a', .int .u64 b', .int .u64 c', .int .u64 d'])).run Try.prog w =
    .ok (decide (a = a' ∧ b = b' ∧ c = c' ∧ d = d')) w := eqWord a b c d a' b' c' d' 9998 w
/-- Below 2^64. -/
def smallB (x : BitVec 256) : Bool := decide (L x 1 = 0) && (decide (L x 2 = 0) && decide (L x 3 = 0))
theorem small_any (x : BitVec 256) (w : World) : Calls Try.prog 94 #[W x] w fun e w' => e = .returned (.tuple #[.int .u64 (if smallB x then L x 0 else 0), .bool (smallB x)]) ∧ Below w.heap.size w w' := by
  have hq := eqWord0 (L x 0) (L x 1) (L x 2) (L x 3) (L x 0) 0 0 0
  rcases hs : smallB x with _ | _
  · have hd : decide (L x 0 = L x 0 ∧ L x 1 = 0 ∧ L x 2 = 0 ∧ L x 3 = 0) = false := by
      unfold smallB at hs; simpa using hs
    rw [hd] at hq
    go_enter Try.func94, Try.ntmps94
    go_wp2_with fail
    go_ret2
    exact ⟨rfl, by go_grown⟩
  · have hd : decide (L x 0 = L x 0 ∧ L x 1 = 0 ∧ L x 2 = 0 ∧ L x 3 = 0) = true := by
      unfold smallB at hs; simpa using hs
    rw [hd] at hq
    go_enter Try.func94, Try.ntmps94
    go_wp2_with fail
    go_ret2
    exact ⟨rfl, by go_grown⟩
def wl (x : BitVec 256) : Array Value := #[.int .u64 (L x 0), .int .u64 (L x 1), .int .u64 (L x 2), .int .u64 (L x 3)]
set_option maxHeartbeats 1000000 in
theorem add1_any (b : Nat) (s x : BitVec 256) (w : World) (hB : Blk w b #[.int .u64 (L s 0), .int .u64 (L s 1), .int .u64 (L s 2), .int .u64 (L s 3)] 32) :
    Calls Try.prog 100 #[W x, .pointer (some ⟨b, 0, none⟩)] w fun e w' => (∃ v, e = .returned v) ∧ Blk w' b #[.int .u64 (L (s + x) 0), .int .u64 (L (s + x) 1), .int .u64 (L (s + x) 2), .int .u64 (L (s + x) 3)] 32 ∧ Below b w w' := by
  have h1 : ∀ o : Obj, Blk (w.alloc o) b #[.int .u64 (L s 0), .int .u64 (L s 1), .int .u64 (L s 2), .int .u64 (L s 3)] 32 := fun o => hB.grow (World.below_alloc w o)
  have c1 := fun o => (h1 o).cell
  have l1 := hB.lt
  have l2 := Nat.lt_succ_of_lt l1
  have hf := fold_add s x
  have hfl : ∀ V : World, (Instr.field 145 (.agg #[.int .u64 (L s 0), .int .u64 (L s 1), .int .u64 (L s 2), .int .u64 (L s 3)]) 0).run Try.prog V = .ok (.agg #[.int .u64 (L s 0), .int .u64 (L s 1), .int .u64 (L s 2), .int .u64 (L s 3)]) V := fun _ => by kernel_rfl
  go_enter Try.func100, Try.ntmps100
  go_wp2_with fail
  refine (hf _).mono ?_
  rintro e w2 ⟨rfl, hb⟩
  have hB2 : Blk w2 b #[.int .u64 (L s 0), .int .u64 (L s 1), .int .u64 (L s 2), .int .u64 (L s 3)] 32 := (h1 _).grow hb
  have c2 := hB2.cell
  have f2 := hB2.free
  have l3 := hB2.lt
  have hb2 : Below b w w2 := ((World.below_alloc w _).mono (Nat.le_of_lt l1)).trans (hb.mono (by simp; omega))
  have hend := ((((hB2.set 0 (.int .u64 (L (s + x) 0))).set 1 (.int .u64 (L (s + x) 1))).set 2 (.int .u64 (L (s + x) 2))).set 3 (.int .u64 (L (s + x) 3)))
  clear h1 c1 hf hb hB
  go_wp2_with fail
  go_end0
  refine ⟨⟨_, rfl⟩, ?_, ?_⟩
  · exact hend
  · refine hb2.trans ?_
    exact ((((Below.refl b w2).setCell (p := ⟨b, 0, none⟩) (Nat.le_refl _) _).setCell (p := ⟨b, 1, none⟩) (Nat.le_refl _) _).setCell (p := ⟨b, 2, none⟩) (Nat.le_refl _) _).setCell (p := ⟨b, 3, none⟩) (Nat.le_refl _) _
def sumK (x y : BitVec 256) (k : Nat) : BitVec 256 := if k = 0 then 0 else if k = 1 then 0 + x else 0 + x + y
set_option maxHeartbeats 1000000 in
theorem add_any (x y : BitVec 256) (sb : Nat) (t : TypeId) (w : World) (hs : Blk w sb #[.int .u64 (L x 0), .int .u64 (L x 1), .int .u64 (L x 2), .int .u64 (L x 3), .int .u64 (L y 0), .int .u64 (L y 1), .int .u64 (L y 2), .int .u64 (L y 3)] t) :
    Calls Try.prog 95 #[.slice (some ⟨sb, 0, none⟩) 2 2] w fun e w' => e = .returned (W (x + y)) ∧ Below w.heap.size w w' := by
  have hz : Blk (w.alloc (.cells #[.int .u64 0, .int .u64 0, .int .u64 0, .int .u64 0] 32)) w.heap.size #[.int .u64 (L (sumK x y 0) 0), .int .u64 (L (sumK x y 0) 1), .int .u64 (L (sumK x y 0) 2), .int .u64 (L (sumK x y 0) 3)] 32 := by
    have e : ∀ i, L (sumK x y 0) i = 0 := fun i => by rw [L_eq]; simp [sumK]
    rw [e, e, e, e]; exact heap_alloc_new _ _
  have hb0 := World.below_alloc w (.cells #[.int .u64 0, .int .u64 0, .int .u64 0, .int .u64 0] 32)
  have HZ := Lib.hid hz
  clear hz
  go_enter Try.func95, Try.ntmps95
  go_wp2_with fail
  go_loopw [9] (fun i wr => ∃ k : Nat, k ≤ 2 ∧ i = .int .i64 k ∧ Blk wr w.heap.size #[.int .u64 (L (sumK x y k) 0), .int .u64 (L (sumK x y k) 1), .int .u64 (L (sumK x y k) 2), .int .u64 (L (sumK x y k) 3)] 32 ∧ Below w.heap.size w wr) (fun i _ => 2 - (intOf i).toNat)
  case atStart => exact ⟨0, by omega, rfl, HZ.out, hb0⟩
  case round =>
    clear HZ hb0
    obtain ⟨k, hk, rfl, hB, hb⟩ := hrel
    have hsr := hs.grow hb
    have cs := hsr.cell
    have ls := hsr.lt
    have cB := hB.cell
    have fB := hB.free
    have lB := hB.lt
    have hne : sb ≠ w.heap.size := Nat.ne_of_lt hs.lt
    have hA1 : ∀ o : Obj, Blk (wr.alloc o) w.heap.size #[.int .u64 (L (sumK x y k) 0), .int .u64 (L (sumK x y k) 1), .int .u64 (L (sumK x y k) 2), .int .u64 (L (sumK x y k) 3)] 32 := fun o => hB.grow (World.below_alloc wr o)
    have HA := Lib.hid hA1
    clear hA1
    rcases (by omega : k = 2 ∨ k = 0 ∨ k = 1) with rfl | rfl | rfl
    · have e : sumK x y 2 = x + y := by simp [sumK]
      rw [e] at hB cB
      have hE := ((((hB.set 0 (.int .u64 (L (x + y) 0))).set 1 (.int .u64 (L (x + y) 1))).set 2 (.int .u64 (L (x + y) 2))).set 3 (.int .u64 (L (x + y) 3)))
      have cE := hE.cell
      go_wp2_with fail
      refine bodyPost_ret (v := W (x + y)) (by simp [results, Try.results95, go_sem, *]) rfl ?_
      refine ⟨rfl, hb.trans ?_⟩
      exact ((((Below.refl w.heap.size wr).setCell (p := ⟨w.heap.size, 0, none⟩) (Nat.le_refl _) _).setCell (p := ⟨w.heap.size, 1, none⟩) (Nat.le_refl _) _).setCell (p := ⟨w.heap.size, 2, none⟩) (Nat.le_refl _) _).setCell (p := ⟨w.heap.size, 3, none⟩) (Nat.le_refl _) _
    · go_wp2_with fail
      refine (add1_any w.heap.size (sumK x y 0) x _ (HA.out _)).mono ?_
      rintro e w2 ⟨⟨v, rfl⟩, hB2, hb2⟩
      have hbw := (hb.trans ((World.below_alloc wr _).mono (Nat.le_of_lt lB))).trans hb2
      clear hb2 cs ls cB fB lB HA hB hb hsr
      go_wp2_with fail
      exact ⟨⟨1, by omega, rfl, hB2, hbw⟩, by simp [intOf]⟩
    · go_wp2_with fail
      refine (add1_any w.heap.size (sumK x y 1) y _ (HA.out _)).mono ?_
      rintro e w2 ⟨⟨v, rfl⟩, hB2, hb2⟩
      have hbw := (hb.trans ((World.below_alloc wr _).mono (Nat.le_of_lt lB))).trans hb2
      clear hb2 cs ls cB fB lB HA hB hb hsr
      go_wp2_with fail
      exact ⟨⟨2, by omega, rfl, hB2, hbw⟩, by simp [intOf]⟩
end Go.Proofs.Ytcfomhnfhalmaaa
