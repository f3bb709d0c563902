/- Walks: the word of 32 bytes, by the document. -/
import Derived.Test.YtjlijocnmicdpaaRb0
set_option linter.unusedVariables false
set_option linter.unusedSimpArgs false
namespace Go.Proofs.Ytjlijocnmicdpaa
open Go.RowKit

/-- The bytes that are laid already. -/
def fF (g : Nat → Nat) (k j : Nat) : Nat := if j < k ∧ j < 32 then g (31 - j) else 0
theorem fF_zero (g : Nat → Nat) : fF g 0 = fun _ => 0 := by funext j; unfold fF; rw [if_neg (by omega)]
theorem fF_free (g : Nat → Nat) (k : Nat) : fF g k k = 0 := by unfold fF; rw [if_neg (by omega)]
theorem fF_step {g : Nat → Nat} {k m : Nat} (h : m + k = 31) : fF g (k + 1) = upd (fF g k) k (g m) := by
  funext j
  unfold fF upd
  dsimp only
  by_cases hj : j = k
  · subst hj; rw [if_pos rfl, if_pos (by omega), show 31 - j = m by omega]
  · rw [if_neg hj]
    by_cases h1 : j < k ∧ j < 32
    · rw [if_pos h1, if_pos (by omega)]
    · rw [if_neg h1, if_neg (by omega)]
theorem fF_lt {g : Nat → Nat} (h : ∀ j, g j < 256) (k j : Nat) : fF g k j < 256 := by
  unfold fF; split
  · exact h _
  · omega
def FromRel (g : Nat → Nat) (w W0 : World) (i : Value) (wr : World) : Prop :=
  ∃ k : Nat, k ≤ 32 ∧ i = .int .i64 k ∧ Blk wr (w.heap.size + 2) (limbs (ob (fF g k))) 80 ∧ Below (w.heap.size + 2) W0 wr
abbrev zeroW : Array Value := #[.int .u64 0, .int .u64 0, .int .u64 0, .int .u64 0]
set_option maxRecDepth 20000 in
set_option maxHeartbeats 2000000 in
theorem refFrom_any (g : Nat → Nat) (w0 : World) (hg : ∀ j, g j < 256) :
    Calls Try.prog 58 #[.agg (arr32 fun j => ((g j : Nat) : Int))] w0 fun e w' => e = .returned (.agg (limbs (ob (fF g 32)))) ∧ Below w0.heap.size w0 w' := by
  have HG := Lib.hid hg
  clear hg
  go_enter Try.func58, Try.ntmps58
  go_wp2_with fail
  go_loopw [4] (fun i wr => FromRel g w0 ((w0.alloc (.cells (arr32 fun j => ((g j : Nat) : Int)) 106)).alloc (.cells zeroW 80)) i wr) (fun i _ => 32 - (intOf i).toNat)
  case atStart =>
    refine ⟨0, Nat.zero_le _, rfl, ?_, ?_⟩
    · rw [fF_zero]
      unfold Blk limbs
      simp only [ob_none]
      have h := heap_alloc_new ((w0.alloc (.cells (arr32 fun j => ((g j : Nat) : Int)) 106)).alloc (.cells zeroW 80)) (.cells zeroW 80)
      rw [show ((w0.alloc (.cells (arr32 fun j => ((g j : Nat) : Int)) 106)).alloc (.cells zeroW 80)).heap.size = w0.heap.size + 2 by simp] at h
      exact h
    · exact (Below.refl _ _).alloc (by simp) _
  case round =>
    obtain ⟨k, hk, rfl, hblk, hb⟩ := hrel
    have hsz := hb.size
    simp only [World.size_alloc] at hsz
    by_cases hlt : k < 32
    · obtain ⟨m, hm⟩ : ∃ m : Nat, m + k = 31 := ⟨31 - k, by omega⟩
      have hmi : (31 : Int) - (k : Int) = ((m : Nat) : Int) := by omega
      have hc : wr.cell? ⟨w0.heap.size, m, none⟩ = some (.int .u8 ((g m : Nat) : Int)) := (hb.cell (p := ⟨w0.heap.size, m, none⟩) (by simp)).trans (kept (World.below_alloc _ _) (newc _ _ _ _ (arr32_at (fun j => ((g j : Nat) : Int)) (by omega))))
      have hlb := hblk.lt
      go_wp2_with fail
      go_wp2_with fail
      refine wp_region_grow wr.heap.size 18 0 0 [(0, 0, 512, 16), (1, 1, 1024, 512), (2, 0, 2048, 16), (3, 4, 4096, 2048), (4, 8, 8192, 4104), (5, 16, 16384, 8192), (6, 0, 32768, 16), (7, 64, 65536, 32768), (8, 128, 131072, 65538), (9, 256, 262144, 131072), (10, 512, 524288, 262144), (11, 0, 1048576, 16), (12, 2048, 2097152, 1048576), (13, 4096, 4194304, 2097152), (14, 8192, 8388608, 4194304), (15, 17408, 16777216, 8912896), (16, 32800, 33554432, 16793600), (17, 131071, 67108864, 1032), (18, 262143, 0, 100663296)] [(.p 0, 1), (.p 1, 3), (.p 2, 7), (.p 3, 15), (.p 4, 31), (.p 5, 63), (.p 6, 127), (.p 7, 255), (.p 8, 511), (.q 9, 1023), (.p 10, 2047), (.p 11, 4095), (.p 12, 8191), (.p 13, 16383), (.p 14, 32767), (.p 15, 65535), (.p 16, 131071), (.p 17, 262143)] [(18, 524287)] _ (fun p hp => hp) (by first | omega | (simp; done) | (simp; omega)) (by kernel_rfl) (by kernel_rfl) (own1 hblk) ?_
      refine wpG_move (i := 0) rfl rfl rfl (by rfl) rfl ?_
      simp only [List.set_cons_zero, List.set_cons_succ]
      refine wpG_pure (i := 1) (v := ?v1x1) rfl rfl (by rfl) (fun w hB hG K hK => ?h1x1) ?_
      case h1x1 =>
        go_wp2_with fail
        exact hK _ (Below.refl _ _)
      simp only [List.set_cons_zero, List.set_cons_succ]
      refine wpG_move (i := 2) rfl rfl rfl (by rfl) rfl ?_
      simp only [List.set_cons_zero, List.set_cons_succ]
      refine wpG_pure (i := 3) (v := ?v1x3) rfl rfl (by rfl) (fun w hB hG K hK => ?h1x3) ?_
      case h1x3 =>
        go_wp2_with fail
        exact hK _ (Below.refl _ _)
      simp only [List.set_cons_zero, List.set_cons_succ]
      refine wpG_pure (i := 4) (v := ?v1x4) rfl rfl (by rfl) (fun w hB hG K hK => ?h1x4) ?_
      case h1x4 =>
        go_wp2_with fail
        exact hK _ (Below.refl _ _)
      simp only [List.set_cons_zero, List.set_cons_succ]
      refine wpG_pure (i := 5) (v := ?v1x5) rfl rfl (by rfl) (fun w hB hG K hK => ?h1x5) ?_
      case h1x5 =>
        have hcx := (hG.cell 0 rfl (k / 8)).trans (limbs_at (ob (fF g k)) (show k / 8 < 4 by omega))
        have cx := hG.cell 0 rfl
        go_wp2_with fail
        exact hK _ (Below.refl _ _)
      simp only [List.set_cons_zero, List.set_cons_succ]
      refine wpG_move (i := 6) rfl rfl rfl (by rfl) rfl ?_
      simp only [List.set_cons_zero, List.set_cons_succ]
      refine wpG_pure (i := 7) (v := ?v1x7) rfl rfl (by rfl) (fun w hB hG K hK => ?h1x7) ?_
      case h1x7 =>
        go_wp2_with fail
        exact hK _ (Below.refl _ _)
      simp only [List.set_cons_zero, List.set_cons_succ]
      refine wpG_pure (i := 8) (v := ?v1x8) rfl rfl (by rfl) (fun w hB hG K hK => ?h1x8) ?_
      case h1x8 =>
        go_wp2_with fail
        exact hK _ (Below.refl _ _)
      simp only [List.set_cons_zero, List.set_cons_succ]
      refine wpG_op (i := 9) (v := ?v1x9) rfl rfl (by rfl) (fun w hB hG K hK => ?h1x9) ?_
      case h1x9 =>
        have hcy := (hB.cell (p := ⟨w0.heap.size, m, none⟩) (show w0.heap.size < wr.heap.size by omega)).trans (drewc hc)
        go_wp2_with fail
        exact hK _ (Below.refl _ _)
      simp only [List.set_cons_zero, List.set_cons_succ]
      refine wpG_pure (i := 10) (v := ?v1x10) rfl rfl (by rfl) (fun w hB hG K hK => ?h1x10) ?_
      case h1x10 =>
        go_wp2_with fail
        exact hK _ (Below.refl _ _)
      simp only [List.set_cons_zero, List.set_cons_succ]
      refine wpG_move (i := 11) rfl rfl rfl (by rfl) rfl ?_
      simp only [List.set_cons_zero, List.set_cons_succ]
      refine wpG_pure (i := 12) (v := ?v1x12) rfl rfl (by rfl) (fun w hB hG K hK => ?h1x12) ?_
      case h1x12 =>
        go_wp2_with fail
        exact hK _ (Below.refl _ _)
      simp only [List.set_cons_zero, List.set_cons_succ]
      refine wpG_pure (i := 13) (v := ?v1x13) rfl rfl (by rfl) (fun w hB hG K hK => ?h1x13) ?_
      case h1x13 =>
        go_wp2_with fail
        exact hK _ (Below.refl _ _)
      simp only [List.set_cons_zero, List.set_cons_succ]
      refine wpG_pure (i := 14) (v := ?v1x14) rfl rfl (by rfl) (fun w hB hG K hK => ?h1x14) ?_
      case h1x14 =>
        go_wp2_with fail
        exact hK _ (Below.refl _ _)
      simp only [List.set_cons_zero, List.set_cons_succ]
      refine wpG_pure (i := 15) (v := ?v1x15) rfl rfl (by rfl) (fun w hB hG K hK => ?h1x15) ?_
      case h1x15 =>
        go_wp2_with fail
        exact hK _ (Below.refl _ _)
      simp only [List.set_cons_zero, List.set_cons_succ]
      refine wpG_pure (i := 16) (v := ?v1x16) rfl rfl (by rfl) (fun w hB hG K hK => ?h1x16) ?_
      case h1x16 =>
        go_wp2_with fail
        exact hK _ (Below.refl _ _)
      simp only [List.set_cons_zero, List.set_cons_succ]
      refine wpG_pure (i := 17) (v := ?v1x17) rfl rfl (by rfl) (fun w hB hG K hK => ?h1x17) ?_
      case h1x17 =>
        go_wp2_with fail
        exact hK _ (Below.refl _ _)
      simp only [List.set_cons_zero, List.set_cons_succ]
      refine wpG_nil (fun w1 hb1 hG1 => ?_)
      simp only [List.append_eq, List.cons_append, List.nil_append, List.drop_succ_cons, List.drop_zero, List.drop_nil]
      have O1 := Own.of hG1
      try simp only [List.setIfInBounds_toArray, List.set_cons_zero, List.set_cons_succ] at O1
      have bw1 : Below wr.heap.size wr w1 := Below.trans (by go_grown) (Below.mono hb1 (by first | omega | (simp; done) | (simp; omega)))
      have zw1 := Below.size hb1
      try simp only [World.size_alloc, World.size_drew, World.size_setCell] at zw1
      have c1x0 := O1.cell 0 rfl
      have f1x0 := O1.free 0 rfl
      have l1x0 := O1.lt 0 rfl
      have l1x0d0 := le_up 0 l1x0
      have l1x0d1 := le_up 1 l1x0
      simp only [upN] at l1x0d0 l1x0d1
      have HO1 := Lib.hid O1
      clear O1 hb1

      have hcs := (HO1.out.cell 0 rfl (k / 8)).trans (limbs_at (ob (fF g k)) (show k / 8 < 4 by omega))
      have hfs : w1.frozen? ⟨w0.heap.size + 2, k / 8, none⟩ = false := HO1.out.free 0 rfl (k / 8)
      have hbk := Blk.set (HO1.out.get 0 rfl) (k / 8) (.int .u64 ((ob (fF g k) (k / 8) ||| sh (g m) (8 * (k % 8)) : Nat) : Int))
      rw [limbs_set (fF_free g k) (by omega), ← fF_step hm] at hbk
      have hbw : Below (w0.heap.size + 2) ((w0.alloc (.cells (arr32 fun j => ((g j : Nat) : Int)) 106)).alloc (.cells zeroW 80)) (w1.setCell ⟨w0.heap.size + 2, k / 8, none⟩ (.int .u64 ((ob (fF g k) (k / 8) ||| sh (g m) (8 * (k % 8)) : Nat) : Int))) := (hb.trans (bw1.mono (by omega))).setCell (Nat.le_refl _) _
      have hor := or_sh (ob_lt (fF_lt HG.out k) (k / 8)) (HG.out m) k
      have HK := Lib.hid hbk
      have HW := Lib.hid hbw
      clear hbk hbw bw1 hc c1x0
      go_wp2_with fail
      exact ⟨⟨k + 1, by omega, by go_num, HK.out, HW.out⟩, by simp [intOf]; omega⟩
    · obtain rfl : k = 32 := by omega
      have hb2 : Blk wr (w0.heap.size + 1) zeroW 80 := by
        unfold Blk
        rw [hb.block (w0.heap.size + 1) (by omega)]
        have h := heap_alloc_new (w0.alloc (.cells (arr32 fun j => ((g j : Nat) : Int)) 106)) (.cells zeroW 80)
        rw [show (w0.alloc (.cells (arr32 fun j => ((g j : Nat) : Int)) 106)).heap.size = w0.heap.size + 1 by simp] at h
        exact h
      have hu : Try.prog.underlying 80 = some (.array 4 23) := by kernel_rfl
      have hi : (Try.prog.info? 80).map (·.size) = some 4 := by kernel_rfl
      have HB := Lib.hid hb
      have H3 := Lib.hid hblk
      have H2 := Lib.hid hb2
      have HU := Lib.hid hu
      have HI := Lib.hid hi
      clear hb hb2 hblk hu hi
      go_wp2_with (first
        | (refine wpList_load_row rfl 80 (.tmp 3) (by with_reducible rfl) _ rfl _ _ (0, 0) _ H3.out HU.out rfl HI.out ?_)
        | (refine wpList_store_row rfl 80 (.tmp 2) (.tmp 27) (by with_reducible rfl) _ _ rfl rfl _ _ H2.out HI.out rfl (by simp [Value.oneCell']) ?_))
      refine bodyPost_ret (results_cell_row (p := 2) (ty := 80) rfl _ _ (w0.heap.size + 1) _ _ (0, 0) _ rfl (setRow_heap _ _ _ _ _ _ H2.out) HU.out rfl HI.out) rfl ?_
      exact ⟨rfl, below_setRow ((((World.below_alloc w0 _).trans ((World.below_alloc _ _).mono (by simp))).trans (HB.out.mono (by omega)))) (by omega) _⟩
end Go.Proofs.Ytjlijocnmicdpaa
