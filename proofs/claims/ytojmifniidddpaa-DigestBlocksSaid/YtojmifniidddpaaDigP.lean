/- A block of padded bytes, by the document. -/
import Derived.Test.YtojmifniidddpaaDigO
set_option linter.unusedVariables false
set_option linter.unusedSimpArgs false
namespace Go.Proofs.Ytojmifniidddpaa
open Go.RowKit

def BlRel (f : Nat → Nat) (w W0 : World) (v : Value) (wr : World) : Prop :=
  ∃ i : Nat, i ≤ 136 ∧ v = .int .i64 i ∧ Blk wr (w.heap.size + 1) (lanes (ob (fP f i))) 29 ∧ Below (w.heap.size + 1) W0 wr
def zero17 : Array Value := #[.int .u64 0, .int .u64 0, .int .u64 0, .int .u64 0, .int .u64 0, .int .u64 0, .int .u64 0, .int .u64 0, .int .u64 0, .int .u64 0, .int .u64 0, .int .u64 0, .int .u64 0, .int .u64 0, .int .u64 0, .int .u64 0, .int .u64 0]
theorem zero17_eq : lanes (ob fun _ => 0) = zero17 := by unfold lanes; simp only [ob_none]; rfl
set_option maxRecDepth 20000 in
set_option maxHeartbeats 4000000 in
theorem refBlock_any (A : Option Addr) (p : List Nat) (N m c k : Nat) (w0 : World) (hS : SlAt w0 A (natC p)) (hpl : p.length = N) (hN : N = m * 136) (hcap : N ≤ c) (hk : k < m) (hm : m ≤ 1000) (hb8 : ∀ x ∈ p, x < 256) :
    Calls Try.prog 10 #[.slice A N c, .int .i64 (k : Nat)] w0 fun e w' => e = .returned (.agg (lanes (ob (blkF p k)))) ∧ Below w0.heap.size w0 w' := by
  have hF := blkF_lt hb8 k
  have hPP : ∃ b off, A = some ⟨b, off, none⟩ ∧ b < w0.heap.size ∧ ∀ i, i < 136 → w0.cell? ⟨b, off + (136 * k + i), none⟩ = some (.int .u8 ((blkF p k i : Nat) : Int)) := by
    have hat : ∀ i, i < 136 → p[136 * k + i]? = some (blkF p k i) := fun i hi => by
      have hl : k * 136 + i < p.length := by omega
      unfold blkF
      rw [List.getD_eq_getElem?_getD, List.getElem?_eq_getElem hl, Nat.mul_comm 136 k, List.getElem?_eq_getElem hl]
      rfl
    obtain ⟨b, off, hA, hbl, hc⟩ := hS.cell (natC_at (hat 0 (by omega)))
    exact ⟨b, off, hA, hbl, fun i hi => hc _ _ (natC_at (hat i hi))⟩
  obtain ⟨b, off, rfl, hbl, hcc⟩ := hPP
  have HP := Lib.hid hcc
  have HF := Lib.hid hF
  have hkN : 136 * k + 136 ≤ N := by omega
  have hN2 : N ≤ 136000 := by omega
  clear hcc hS hF hb8 hpl hN
  generalize blkF p k = f at *
  go_enter Try.func10, Try.ntmps10
  go_wp2_with fail
  go_loopw [6] (fun v wr => BlRel f w0 ((w0.alloc (.cells zero17 29)).alloc (.cells zero17 29)) v wr) (fun v _ => 136 - (intOf v).toNat)
  case atStart =>
    refine ⟨0, Nat.zero_le _, rfl, ?_, Below.refl _ _⟩
    rw [fP_zero, zero17_eq]
    have h := heap_alloc_new (w0.alloc (.cells zero17 29)) (.cells zero17 29)
    rw [World.size_alloc] at h
    exact h
  case round =>
    obtain ⟨i, hi, rfl, hblk, hb⟩ := hrel
    have hsz := hb.size
    simp only [World.size_alloc] at hsz
    by_cases hlt : i < 136
    · have hc : wr.cell? ⟨b, off + (136 * k + i), none⟩ = some (.int .u8 ((f i : Nat) : Int)) := (hb.cell (p := ⟨b, off + (136 * k + i), none⟩) (show b < w0.heap.size + 1 by omega)).trans (kept (World.below_alloc _ _) (kept (World.below_alloc _ _) (HP.out i hlt)))
      have hlb := hblk.lt
      go_wp2_with fail
      go_wp2_with fail
      refine wp_region_grow wr.heap.size 21 0 0 [(0, 0, 2048, 64), (1, 1, 4096, 2048), (2, 0, 8192, 64), (3, 4, 16384, 8192), (4, 8, 32768, 16416), (5, 16, 65536, 32768), (6, 0, 131072, 1), (7, 0, 262144, 2), (8, 128, 524288, 262144), (9, 0, 1048576, 64), (10, 768, 2097152, 1572864), (11, 1088, 4194304, 2228224), (12, 2048, 8388608, 4194304), (13, 4096, 16777216, 8388608), (14, 0, 33554432, 64), (15, 16384, 67108864, 33554432), (16, 32768, 134217728, 67108864), (17, 65536, 268435456, 134217728), (18, 139264, 536870912, 285212672), (19, 262176, 1073741824, 536936448), (20, 1048575, 2147483648, 4128), (21, 2097151, 0, 3221225472)] [(.p 0, 1), (.p 1, 3), (.p 2, 7), (.p 3, 15), (.p 4, 31), (.p 5, 63), (.p 6, 127), (.p 7, 255), (.p 8, 511), (.p 9, 1023), (.p 10, 2047), (.p 11, 4095), (.q 12, 8191), (.p 13, 16383), (.p 14, 32767), (.p 15, 65535), (.p 16, 131071), (.p 17, 262143), (.p 18, 524287), (.p 19, 1048575), (.p 20, 2097151)] [(21, 4194303)] _ (fun p hp => hp) (by first | omega | (simp; done) | (simp; omega)) (by kernel_rfl) (by kernel_rfl) (own1 hblk) ?_
      refine wpG_move (i := 0) rfl rfl rfl (by rfl) rfl ?_
      simp only [List.set_cons_zero, List.set_cons_succ]
      refine wpG_pure (i := 1) (v := ?v1x1) rfl rfl (by rfl) (fun w hB hG K hK => ?h1x1) ?_
      case h1x1 =>
        go_wp2_with fail
        exact hK _ (Below.refl _ _)
      simp only [List.set_cons_zero, List.set_cons_succ]
      refine wpG_move (i := 2) rfl rfl rfl (by rfl) rfl ?_
      simp only [List.set_cons_zero, List.set_cons_succ]
      refine wpG_pure (i := 3) (v := ?v1x3) rfl rfl (by rfl) (fun w hB hG K hK => ?h1x3) ?_
      case h1x3 =>
        go_wp2_with fail
        exact hK _ (Below.refl _ _)
      simp only [List.set_cons_zero, List.set_cons_succ]
      refine wpG_pure (i := 4) (v := ?v1x4) rfl rfl (by rfl) (fun w hB hG K hK => ?h1x4) ?_
      case h1x4 =>
        go_wp2_with fail
        exact hK _ (Below.refl _ _)
      simp only [List.set_cons_zero, List.set_cons_succ]
      refine wpG_pure (i := 5) (v := ?v1x5) rfl rfl (by rfl) (fun w hB hG K hK => ?h1x5) ?_
      case h1x5 =>
        have hcx := (hG.cell 0 rfl (i / 8)).trans (lanes_at (ob (fP f i)) (show i / 8 < 17 by omega))
        have cx := Own.cell hG 0 rfl
        go_wp2_with fail
        exact hK _ (Below.refl _ _)
      simp only [List.set_cons_zero, List.set_cons_succ]
      refine wpG_move (i := 6) rfl rfl rfl (by rfl) rfl ?_
      simp only [List.set_cons_zero, List.set_cons_succ]
      refine wpG_move (i := 7) rfl rfl rfl (by rfl) rfl ?_
      simp only [List.set_cons_zero, List.set_cons_succ]
      refine wpG_pure (i := 8) (v := ?v1x8) rfl rfl (by rfl) (fun w hB hG K hK => ?h1x8) ?_
      case h1x8 =>
        go_wp2_with fail
        exact hK _ (Below.refl _ _)
      simp only [List.set_cons_zero, List.set_cons_succ]
      refine wpG_move (i := 9) rfl rfl rfl (by rfl) rfl ?_
      simp only [List.set_cons_zero, List.set_cons_succ]
      refine wpG_pure (i := 10) (v := ?v1x10) rfl rfl (by rfl) (fun w hB hG K hK => ?h1x10) ?_
      case h1x10 =>
        go_wp2_with fail
        exact hK _ (Below.refl _ _)
      simp only [List.set_cons_zero, List.set_cons_succ]
      refine wpG_pure (i := 11) (v := ?v1x11) rfl rfl (by rfl) (fun w hB hG K hK => ?h1x11) ?_
      case h1x11 =>
        go_wp2_with fail
        exact hK _ (Below.refl _ _)
      simp only [List.set_cons_zero, List.set_cons_succ]
      refine wpG_op (i := 12) (v := ?v1x12) rfl rfl (by rfl) (fun w hB hG K hK => ?h1x12) ?_
      case h1x12 =>
        have hcy := (hB.cell (p := ⟨b, off + (136 * k + i), none⟩) (show b < wr.heap.size by omega)).trans (drewc hc)
        go_wp2_with fail
        exact hK _ (Below.refl _ _)
      simp only [List.set_cons_zero, List.set_cons_succ]
      refine wpG_pure (i := 13) (v := ?v1x13) rfl rfl (by rfl) (fun w hB hG K hK => ?h1x13) ?_
      case h1x13 =>
        go_wp2_with fail
        exact hK _ (Below.refl _ _)
      simp only [List.set_cons_zero, List.set_cons_succ]
      refine wpG_move (i := 14) rfl rfl rfl (by rfl) rfl ?_
      simp only [List.set_cons_zero, List.set_cons_succ]
      refine wpG_pure (i := 15) (v := ?v1x15) rfl rfl (by rfl) (fun w hB hG K hK => ?h1x15) ?_
      case h1x15 =>
        go_wp2_with fail
        exact hK _ (Below.refl _ _)
      simp only [List.set_cons_zero, List.set_cons_succ]
      refine wpG_pure (i := 16) (v := ?v1x16) rfl rfl (by rfl) (fun w hB hG K hK => ?h1x16) ?_
      case h1x16 =>
        go_wp2_with fail
        exact hK _ (Below.refl _ _)
      simp only [List.set_cons_zero, List.set_cons_succ]
      refine wpG_pure (i := 17) (v := ?v1x17) rfl rfl (by rfl) (fun w hB hG K hK => ?h1x17) ?_
      case h1x17 =>
        go_wp2_with fail
        exact hK _ (Below.refl _ _)
      simp only [List.set_cons_zero, List.set_cons_succ]
      refine wpG_pure (i := 18) (v := ?v1x18) rfl rfl (by rfl) (fun w hB hG K hK => ?h1x18) ?_
      case h1x18 =>
        go_wp2_with fail
        exact hK _ (Below.refl _ _)
      simp only [List.set_cons_zero, List.set_cons_succ]
      refine wpG_pure (i := 19) (v := ?v1x19) rfl rfl (by rfl) (fun w hB hG K hK => ?h1x19) ?_
      case h1x19 =>
        go_wp2_with fail
        exact hK _ (Below.refl _ _)
      simp only [List.set_cons_zero, List.set_cons_succ]
      refine wpG_pure (i := 20) (v := ?v1x20) rfl rfl (by rfl) (fun w hB hG K hK => ?h1x20) ?_
      case h1x20 =>
        go_wp2_with fail
        exact hK _ (Below.refl _ _)
      simp only [List.set_cons_zero, List.set_cons_succ]
      refine wpG_nil (fun w1 hb1 hG1 => ?_)
      simp only [List.append_eq, List.cons_append, List.nil_append, List.drop_succ_cons, List.drop_zero, List.drop_nil]
      have O1 := Own.of hG1
      try simp only [List.setIfInBounds_toArray, List.set_cons_zero, List.set_cons_succ] at O1
      have bw1 : Below wr.heap.size wr w1 := Below.trans (by go_grown) (Below.mono hb1 (by first | omega | (simp; done) | (simp; omega)))
      have zw1 := Below.size hb1
      try simp only [World.size_alloc, World.size_drew, World.size_setCell] at zw1
      have c1x0 := Own.cell O1 0 rfl
      have f1x0 := Own.free O1 0 rfl
      have l1x0 := Own.lt O1 0 rfl
      have l1x0d0 := le_up 0 l1x0
      have l1x0d1 := le_up 1 l1x0
      simp only [upN] at l1x0d0 l1x0d1
      have HO1 := Lib.hid O1
      clear O1 hb1

      have hcs := (HO1.out.cell 0 rfl (i / 8)).trans (lanes_at (ob (fP f i)) (show i / 8 < 17 by omega))
      have hfs : w1.frozen? ⟨w0.heap.size + 1, i / 8, none⟩ = false := HO1.out.free 0 rfl (i / 8)
      have hbk := Blk.set (HO1.out.get 0 rfl) (i / 8) (.int .u64 ((ob (fP f i) (i / 8) ||| sh (f i) (8 * (i % 8)) : Nat) : Int))
      rw [lanes_set (fP_free f i) (by omega), ← fP_step f i] at hbk
      have hbw := (hb.trans (bw1.mono (by omega))).setCell (p := ⟨w0.heap.size + 1, i / 8, none⟩) (Nat.le_refl _) (.int .u64 ((ob (fP f i) (i / 8) ||| sh (f i) (8 * (i % 8)) : Nat) : Int))
      have hor := or_sh (ob_lt (fP_lt HF.out i) (i / 8)) (HF.out i) i
      have HK := Lib.hid hbk
      have HW := Lib.hid hbw
      clear hbk hbw bw1 hc c1x0
      go_wp2_with fail
      exact ⟨⟨i + 1, by omega, by go_num, HK.out, HW.out⟩, by simp [intOf]; omega⟩
    · obtain rfl : i = 136 := by omega
      rw [fP_end] at hblk
      have hb2 : Blk wr w0.heap.size zero17 29 := by
        unfold Blk
        rw [hb.block w0.heap.size (by omega), heap_alloc_old _ _ (by simp)]
        exact heap_alloc_new _ _
      have hu : Try.prog.underlying 29 = some (.array 17 28) := by kernel_rfl
      have hi : (Try.prog.info? 29).map (·.size) = some 17 := by kernel_rfl
      have HB := Lib.hid hb
      have H3 := Lib.hid hblk
      have H2 := Lib.hid hb2
      have HU := Lib.hid hu
      have HI := Lib.hid hi
      clear hb hb2 hblk hu hi
      go_wp2_with (first
        | (refine wpList_load_row rfl 29 (.tmp 5) (by with_reducible rfl) _ rfl _ _ (0, 0) _ H3.out HU.out rfl HI.out ?_)
        | (refine wpList_store_row rfl 29 (.tmp 4) (.tmp 32) (by with_reducible rfl) _ _ rfl rfl _ _ H2.out HI.out rfl (by simp [Value.oneCell', lanes]) ?_))
      refine bodyPost_ret (results_cell_row (p := 4) (ty := 29) rfl _ _ w0.heap.size _ _ (0, 0) _ rfl (setRow_heap _ _ _ _ _ _ H2.out) HU.out rfl HI.out) rfl ?_
      exact ⟨rfl, below_setRow ((((World.below_alloc w0 _).trans ((World.below_alloc _ _).mono (by simp))).trans (HB.out.mono (by omega)))) (by omega) _⟩
end Go.Proofs.Ytojmifniidddpaa
