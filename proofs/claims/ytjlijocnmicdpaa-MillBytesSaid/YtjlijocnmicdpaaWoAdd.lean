/- Sums of words. No condition. -/
import Derived.Test.YtjlijocnmicdpaaWordA
import Derived.Test.YtjlijocnmicdpaaSl
import Derived.Test.YtjlijocnmicdpaaReg
set_option linter.unusedVariables false
set_option linter.unusedSimpArgs false
namespace Go.Proofs.Ytjlijocnmicdpaa
open Go.RowKit

set_option maxHeartbeats 1000000 in
theorem add1_any (b : Nat) (s x : BitVec 256) (w : World) (hB : Blk w b #[.int .u64 (L s 0), .int .u64 (L s 1), .int .u64 (L s 2), .int .u64 (L s 3)] 80) :
    Calls Try.prog 52 #[W x, .pointer (some ⟨b, 0, none⟩)] w fun e w' => (∃ v, e = .returned v) ∧ Blk w' b #[.int .u64 (L (s + x) 0), .int .u64 (L (s + x) 1), .int .u64 (L (s + x) 2), .int .u64 (L (s + x) 3)] 80 ∧ Below b w w' := by
  have h1 : ∀ o : Obj, Blk (w.alloc o) b #[.int .u64 (L s 0), .int .u64 (L s 1), .int .u64 (L s 2), .int .u64 (L s 3)] 80 := fun o => hB.grow (World.below_alloc w o)
  have c1 := fun o => (h1 o).cell
  have l1 := hB.lt
  have l2 := Nat.lt_succ_of_lt l1
  have hf := fold_add s x
  have hfl : ∀ V : World, (Instr.field 99 (.agg #[.int .u64 (L s 0), .int .u64 (L s 1), .int .u64 (L s 2), .int .u64 (L s 3)]) 0).run Try.prog V = .ok (.agg #[.int .u64 (L s 0), .int .u64 (L s 1), .int .u64 (L s 2), .int .u64 (L s 3)]) V := fun _ => by kernel_rfl
  go_enter Try.func52, Try.ntmps52
  go_wp2_with fail
  refine (hf _).mono ?_
  rintro e w2 ⟨rfl, hb⟩
  have hB2 : Blk w2 b #[.int .u64 (L s 0), .int .u64 (L s 1), .int .u64 (L s 2), .int .u64 (L s 3)] 80 := (h1 _).grow hb
  have c2 := hB2.cell
  have f2 := hB2.free
  have l3 := hB2.lt
  have hb2 : Below b w w2 := ((World.below_alloc w _).mono (Nat.le_of_lt l1)).trans (hb.mono (by simp; omega))
  have hend := ((((hB2.set 0 (.int .u64 (L (s + x) 0))).set 1 (.int .u64 (L (s + x) 1))).set 2 (.int .u64 (L (s + x) 2))).set 3 (.int .u64 (L (s + x) 3)))
  clear h1 c1 hf hb hB
  go_wp2_with fail
  go_end0
  refine ⟨⟨_, rfl⟩, ?_, ?_⟩
  · exact hend
  · refine hb2.trans ?_
    exact ((((Below.refl b w2).setCell (p := ⟨b, 0, none⟩) (Nat.le_refl _) _).setCell (p := ⟨b, 1, none⟩) (Nat.le_refl _) _).setCell (p := ⟨b, 2, none⟩) (Nat.le_refl _) _).setCell (p := ⟨b, 3, none⟩) (Nat.le_refl _) _
abbrev wl (x : BitVec 256) : List Value := [.int .u64 (L x 0), .int .u64 (L x 1), .int .u64 (L x 2), .int .u64 (L x 3)]
abbrev wc (x : BitVec 256) : Array Value := #[.int .u64 (L x 0), .int .u64 (L x 1), .int .u64 (L x 2), .int .u64 (L x 3)]
def sumW (xs : List (BitVec 256)) (k : Nat) : BitVec 256 := (xs.take k).foldl (· + ·) 0
theorem sumW_zero (xs : List (BitVec 256)) : sumW xs 0 = 0 := rfl
theorem sumW_succ {xs : List (BitVec 256)} {k : Nat} {x : BitVec 256} (h : xs[k]? = some x) : sumW xs (k + 1) = sumW xs k + x := by
  unfold sumW
  rw [List.take_add_one, h, List.foldl_append]
  rfl
theorem sumW_all (xs : List (BitVec 256)) : sumW xs xs.length = xs.foldl (· + ·) 0 := by unfold sumW; rw [List.take_length]
theorem L_zero (i : Nat) : L 0#256 i = 0 := by rw [L_eq]; simp
theorem wc_zero : wc 0 = #[.int .u64 0, .int .u64 0, .int .u64 0, .int .u64 0] := by rw [show (0 : BitVec 256) = 0#256 from rfl]; unfold wc; rw [L_zero, L_zero, L_zero, L_zero]
def AddLRel (xs : List (BitVec 256)) (w : World) (i : Value) (wr : World) : Prop := ∃ k : Nat, k ≤ xs.length ∧ i = .int .i64 k ∧ Blk wr w.heap.size (wc (sumW xs k)) 80 ∧ Below w.heap.size w wr
set_option maxRecDepth 20000 in
set_option maxHeartbeats 2000000 in
theorem addL_any (A : Option Addr) (xs : List (BitVec 256)) (cap : Nat) (w : World) (hS : SlAt w A (xs.flatMap wl)) (hn : xs.length ≤ 1000) :
    Calls Try.prog 40 #[.slice A xs.length cap] w fun e w' => e = .returned (W (xs.foldl (· + ·) 0)) ∧ Below w.heap.size w w' := by
  have HE := Lib.hid (sumW_all xs)
  have HS := Lib.hid (fun (V : World) (hb : Below w.heap.size w V) => hS.below rfl hb)
  have HSU := Lib.hid (fun k x (h : xs[k]? = some x) => sumW_succ h)
  have HST := Lib.hid (show Blk (w.alloc (.cells #[.int .u64 0, .int .u64 0, .int .u64 0, .int .u64 0] 80)) w.heap.size (wc (sumW xs 0)) 80 by rw [sumW_zero, wc_zero]; exact heap_alloc_new _ _)
  have hb0 := World.below_alloc w (.cells #[.int .u64 0, .int .u64 0, .int .u64 0, .int .u64 0] 80)
  have HB0 := Lib.hid hb0
  clear hS hb0
  obtain ⟨S, hS⟩ : ∃ S, S = xs.foldl (· + ·) 0 := ⟨_, rfl⟩
  rw [← hS] at HE ⊢
  clear hS
  generalize hln : xs.length = n at *
  go_enter Try.func40, Try.ntmps40
  go_wp2_with fail
  go_loopw [9] (fun i wr => AddLRel xs w i wr) (fun i _ => n - (intOf i).toNat)
  case atStart => exact ⟨0, Nat.zero_le _, rfl, HST.out, HB0.out⟩
  case round =>
    clear HST HB0
    obtain ⟨k, hk, rfl, hB, hb⟩ := hrel
    rw [hln] at hk
    have hlB := hB.lt
    by_cases hlt : k < n
    · obtain ⟨x, hx⟩ : ∃ x, xs[k]? = some x := ⟨xs[k], by simp [hln, hlt]⟩
      have at_ : ∀ j, j < 4 → (xs.flatMap wl)[k * 4 + j]? = (wl x)[j]? := fun j hj => flat_at (f := wl) (n := 4) (fun _ => rfl) xs k x hx j hj
      obtain ⟨b', off, rfl, hbl, hcell⟩ := (HS.out wr hb).cell ((at_ 0 (by omega)).trans rfl)
      have hc0 : wr.cell? ⟨b', off + k * 4, none⟩ = some (.int .u64 (L x 0)) := by have := hcell (k * 4 + 0) _ ((at_ 0 (by omega)).trans rfl); simpa [Nat.add_assoc] using this
      have hc1 : wr.cell? ⟨b', off + k * 4 + 1, none⟩ = some (.int .u64 (L x 1)) := by have := hcell (k * 4 + 1) _ ((at_ 1 (by omega)).trans rfl); simpa [Nat.add_assoc] using this
      have hc2 : wr.cell? ⟨b', off + k * 4 + 2, none⟩ = some (.int .u64 (L x 2)) := by have := hcell (k * 4 + 2) _ ((at_ 2 (by omega)).trans rfl); simpa [Nat.add_assoc] using this
      have hc3 : wr.cell? ⟨b', off + k * 4 + 3, none⟩ = some (.int .u64 (L x 3)) := by have := hcell (k * 4 + 3) _ ((at_ 3 (by omega)).trans rfl); simpa [Nat.add_assoc] using this
      have hsu := HSU.out k x hx
      generalize hs1 : sumW xs (k + 1) = s1 at *
      generalize sumW xs k = s at *
      subst hsu
      have HAD := Lib.hid (fun o => add1_any w.heap.size s x (wr.alloc o) (hB.grow (World.below_alloc wr o)))
      have hbs := hb.size
      have HBB := Lib.hid hb
      clear hcell at_ hb hB
      go_wp2_with fail
      refine (HAD.out _).mono ?_
      rintro e w2 ⟨⟨v, rfl⟩, hB2, hb2⟩
      have HB2 := Lib.hid hB2
      have HBW := Lib.hid ((HBB.out.trans ((World.below_alloc wr _).mono hbs)).trans hb2)
      clear hB2 hb2 hc0 hc1 hc2 hc3
      go_wp2_with fail
      exact ⟨⟨k + 1, by rw [hln]; omega, by go_num, by rw [hs1]; exact HB2.out, HBW.out⟩, by simp [intOf]; omega⟩
    · obtain rfl : k = n := by omega
      rw [HE.out] at hB
      have cB := hB.cell
      have fB := hB.free
      have hE := ((((hB.set 0 (.int .u64 (L S 0))).set 1 (.int .u64 (L S 1))).set 2 (.int .u64 (L S 2))).set 3 (.int .u64 (L S 3)))
      have cE := hE.cell
      have HBB := Lib.hid hb
      clear hb hB hE
      go_wp2_with fail
      refine bodyPost_ret (v := W S) (by simp [results, Try.results40, go_sem, *]) rfl ?_
      refine ⟨rfl, HBB.out.trans ?_⟩
      exact ((((Below.refl w.heap.size wr).setCell (p := ⟨w.heap.size, 0, none⟩) (Nat.le_refl _) _).setCell (p := ⟨w.heap.size, 1, none⟩) (Nat.le_refl _) _).setCell (p := ⟨w.heap.size, 2, none⟩) (Nat.le_refl _) _).setCell (p := ⟨w.heap.size, 3, none⟩) (Nat.le_refl _) _
theorem add_any (x y : BitVec 256) (sb : Nat) (t : TypeId) (w : World) (hs : Blk w sb #[.int .u64 (L x 0), .int .u64 (L x 1), .int .u64 (L x 2), .int .u64 (L x 3), .int .u64 (L y 0), .int .u64 (L y 1), .int .u64 (L y 2), .int .u64 (L y 3)] t) :
    Calls Try.prog 40 #[.slice (some ⟨sb, 0, none⟩) 2 2] w fun e w' => e = .returned (W (x + y)) ∧ Below w.heap.size w w' := by
  have h := addL_any (some ⟨sb, 0, none⟩) [x, y] 2 w (SlAt.of_blk hs) (by simp)
  rw [show [x, y].foldl (· + ·) 0 = x + y by simp] at h
  exact h
end Go.Proofs.Ytjlijocnmicdpaa
