/- Walks: a word's bytes, by the document. -/
import Derived.Test.YtjlijocnmicdpaaWr0
import Derived.Laws.CopyOwn
set_option linter.unusedVariables false
set_option linter.unusedSimpArgs false
namespace Go.Proofs.Ytjlijocnmicdpaa
open Go.RowKit

/-- 32 bytes. -/
abbrev arr32 (g : Nat → Int) : Array Value := #[.int .u8 (g 0), .int .u8 (g 1), .int .u8 (g 2), .int .u8 (g 3), .int .u8 (g 4), .int .u8 (g 5), .int .u8 (g 6), .int .u8 (g 7), .int .u8 (g 8), .int .u8 (g 9), .int .u8 (g 10), .int .u8 (g 11), .int .u8 (g 12), .int .u8 (g 13), .int .u8 (g 14), .int .u8 (g 15), .int .u8 (g 16), .int .u8 (g 17), .int .u8 (g 18), .int .u8 (g 19), .int .u8 (g 20), .int .u8 (g 21), .int .u8 (g 22), .int .u8 (g 23), .int .u8 (g 24), .int .u8 (g 25), .int .u8 (g 26), .int .u8 (g 27), .int .u8 (g 28), .int .u8 (g 29), .int .u8 (g 30), .int .u8 (g 31)]
theorem arr32_eq (g : Nat → Int) : arr32 g = ((List.range 32).map fun j => Value.int .u8 (g j)).toArray := rfl
theorem arr32_at (g : Nat → Int) {q : Nat} (h : q < 32) : (arr32 g)[q]? = some (.int .u8 (g q)) := by
  rw [arr32_eq]; simp [h]
theorem arr32_set (g : Nat → Int) (q : Nat) (v : Int) : (arr32 g).setIfInBounds q (.int .u8 v) = arr32 fun j => if j = q then v else g j := by
  rw [arr32_eq, arr32_eq, List.setIfInBounds_toArray]
  congr 1
  apply List.ext_getElem?
  intro j
  rw [List.getElem?_set]
  by_cases hj : j < 32
  · by_cases hq : q = j
    · subst hq; simp [hj]
    · rw [if_neg hq]; simp [hj, show ¬ j = q from fun e => hq e.symm]
  · by_cases hq : q = j
    · subst hq; simp [hj]
    · rw [if_neg hq]; simp [hj]
theorem arr32_list (g : Nat → Int) : (arr32 g).toList = bytesC ((List.range 32).map g) := rfl
/-- The bytes that are laid already. -/
def gB (x : Nat → Nat) (k : Nat) : Nat → Int := fun j => if 31 - j < k then ((byteAt x (31 - j) : Nat) : Int) else 0
theorem gB_step {x : Nat → Nat} {k m : Nat} (h : m + k = 31) : (fun j => if j = m then ((byteAt x k : Nat) : Int) else gB x k j) = fun j => if j ≤ 31 then gB x (k + 1) j else gB x k j := by
  funext j
  unfold gB
  by_cases hj : j = m
  · subst hj; rw [if_pos rfl, if_pos (by omega), if_pos (by omega), show 31 - j = k by omega]
  · rw [if_neg hj]
    by_cases h2 : j ≤ 31
    · rw [if_pos h2]
      by_cases h3 : 31 - j < k
      · rw [if_pos h3, if_pos (by omega)]
      · rw [if_neg h3, if_neg (by omega)]
    · rw [if_neg h2]
theorem arr32_congr {g g' : Nat → Int} (h : ∀ j, j < 32 → g j = g' j) : arr32 g = arr32 g' := by
  rw [arr32_eq, arr32_eq]; congr 1; exact List.map_congr_left fun j hj => by rw [h j (by simpa using hj)]
theorem arr32_step {x : Nat → Nat} {k m : Nat} (h : m + k = 31) : (arr32 (gB x k)).setIfInBounds m (.int .u8 ((byteAt x k : Nat) : Int)) = arr32 (gB x (k + 1)) := by
  rw [arr32_set, gB_step h]; exact arr32_congr fun j hj => by rw [if_pos (by omega)]
theorem gB_end (x : Nat → Nat) : arr32 (gB x 32) = arr32 fun j => ((byteAt x (31 - j) : Nat) : Int) := arr32_congr fun j hj => by unfold gB; rw [if_pos (by omega)]
def RbRel (x : Nat → Nat) (w W0 : World) (i : Value) (wr : World) : Prop :=
  ∃ k : Nat, k ≤ 32 ∧ i = .int .i64 k ∧ Blk wr (w.heap.size + 2) (arr32 (gB x k)) 106 ∧ Below (w.heap.size + 2) W0 wr
set_option maxRecDepth 20000 in
set_option maxHeartbeats 2000000 in
theorem refWordBytes_any (x : Nat → Nat) (w : World) (hx : ∀ q, x q < 2 ^ 64) :
    Calls Try.prog 57 #[.agg (limbs x)] w fun e w' => e = .returned (.agg (arr32 fun j => ((byteAt x (31 - j) : Nat) : Int))) ∧ Below w.heap.size w w' := by
  have HX := Lib.hid hx
  clear hx
  go_enter Try.func57, Try.ntmps57
  go_wp2_with fail
  go_loopw [4] (fun i wr => RbRel x w ((w.alloc (.cells (limbs x) 80)).alloc (.cells (arr32 fun _ => 0) 106)) i wr) (fun i _ => 32 - (intOf i).toNat)
  case atStart =>
    refine ⟨0, Nat.zero_le _, rfl, ?_, ?_⟩
    · rw [show arr32 (gB x 0) = arr32 fun _ => 0 from arr32_congr fun j hj => by unfold gB; rw [if_neg (by omega)]]
      unfold Blk
      have h := heap_alloc_new ((w.alloc (.cells (limbs x) 80)).alloc (.cells (arr32 fun _ => 0) 106)) (.cells (arr32 fun _ => 0) 106)
      rw [show ((w.alloc (.cells (limbs x) 80)).alloc (.cells (arr32 fun _ => 0) 106)).heap.size = w.heap.size + 2 by simp] at h
      exact h
    · exact (Below.refl _ _).alloc (by simp) _
  case round =>
    obtain ⟨k, hk, rfl, hblk, hb⟩ := hrel
    by_cases hlt : k < 32
    · obtain ⟨m, hm⟩ : ∃ m : Nat, m + k = 31 := ⟨31 - k, by omega⟩
      have hmi : (31 : Int) - (k : Int) = ((m : Nat) : Int) := by omega
      have hc : wr.cell? ⟨w.heap.size, k / 8, none⟩ = some (.int .u64 (x (k / 8) : Nat)) := (hb.cell (p := ⟨w.heap.size, k / 8, none⟩) (by simp)).trans (kept (World.below_alloc _ _) (newc _ _ _ _ (limbs_at x (by omega))))
      have hcs := (hblk.cell m).trans (arr32_at (gB x k) (show m < 32 by omega))
      have hfs := hblk.free m
      have hv : ((byteAt x k : Nat) : Int) = ((x (k / 8) : Nat) : Int) / 2 ^ (8 * (k % 8)) % 256 := by unfold byteAt; simp
      have hbk := Blk.set hblk m (.int .u8 ((byteAt x k : Nat) : Int))
      rw [arr32_step hm, hv] at hbk
      have hbw : Below (w.heap.size + 2) ((w.alloc (.cells (limbs x) 80)).alloc (.cells (arr32 fun _ => 0) 106)) (wr.setCell ⟨w.heap.size + 2, m, none⟩ (.int .u8 (((x (k / 8) : Nat) : Int) / 2 ^ (8 * (k % 8)) % 256))) := hb.setCell (Nat.le_refl _) _
      have HK := Lib.hid hbk
      have HW := Lib.hid hbw
      have hsz := hb.size
      simp only [World.size_alloc] at hsz
      clear hbk hbw hblk hb hv
      go_wp2_with fail
      exact ⟨⟨k + 1, by omega, by go_num, HK.out, HW.out⟩, by simp [intOf]; omega⟩
    · obtain rfl : k = 32 := by omega
      rw [gB_end] at hblk
      have hb2 : Blk wr (w.heap.size + 1) (arr32 fun _ => 0) 106 := by
        unfold Blk
        rw [hb.block (w.heap.size + 1) (by omega)]
        have h := heap_alloc_new (w.alloc (.cells (limbs x) 80)) (.cells (arr32 fun _ => 0) 106)
        rw [show (w.alloc (.cells (limbs x) 80)).heap.size = w.heap.size + 1 by simp] at h
        exact h
      have hu : Try.prog.underlying 106 = some (.array 32 5) := by kernel_rfl
      have hi : (Try.prog.info? 106).map (·.size) = some 32 := by kernel_rfl
      have HB := Lib.hid hb
      have H3 := Lib.hid hblk
      have H2 := Lib.hid hb2
      have HU := Lib.hid hu
      have HI := Lib.hid hi
      clear hb hb2 hblk hu hi
      go_wp2_with (first
        | (refine wpList_load_row rfl 106 (.tmp 3) (by with_reducible rfl) _ rfl _ _ (0, 0) _ H3.out HU.out rfl HI.out ?_)
        | (refine wpList_store_row rfl 106 (.tmp 2) (.tmp 22) (by with_reducible rfl) _ _ rfl rfl _ _ H2.out HI.out rfl (by simp [Value.oneCell']) ?_))
      refine bodyPost_ret (results_cell_row (p := 2) (ty := 106) rfl _ _ (w.heap.size + 1) _ _ (0, 0) _ rfl (setRow_heap _ _ _ _ _ _ H2.out) HU.out rfl HI.out) rfl ?_
      exact ⟨rfl, below_setRow ((((World.below_alloc w _).trans ((World.below_alloc _ _).mono (by simp))).trans (HB.out.mono (by omega)))) (by omega) _⟩
end Go.Proofs.Ytjlijocnmicdpaa
