/- Walks: Cells and Word, and the document's. -/
import Derived.Test.YtknkepokkenokaaRr
import Derived.Test.YtknkepokkenokaaTagJ
import Derived.Deep.MidRow
import Derived.Laws.Cover3
import Derived.Deep.WholeRow
set_option linter.unusedVariables false
set_option linter.unusedSimpArgs false
namespace Go.Proofs.Ytknkepokkenokaa
open Go.RowKit

/-- A value of four numbers and a label. -/
abbrev valV (x : Nat → Nat) (l : Int) : Value := .agg #[.int .u64 (x 0 : Nat), .int .u64 (x 1 : Nat), .int .u64 (x 2 : Nat), .int .u64 (x 3 : Nat), .int .u64 l]
def wcells (x : Nat → Nat) (l : Int) : List (Int × Int) := (wbs x).map fun b => (b, l)
set_option maxRecDepth 20000 in
set_option maxHeartbeats 2000000 in
theorem cells_any (x : Nat → Nat) (l : Int) (w : World) (hx : ∀ q, x q < 2 ^ 64) :
    Calls Try.prog 20 #[valV x l] w (Gives w (cellsC (wcells x l)) 32) := by
  have HW := Lib.hid fun W => wordBytes_any x W hx
  clear hx
  go_enter Try.func20, Try.ntmps20
  go_wp2_with fail
  refine (HW.out _).mono ?_
  rintro e w1 ⟨A, c, rfl, hs, hc, hb, _⟩
  obtain ⟨b, off, rfl, hbl, hcell⟩ := hs.cell (j := 0) (u := .int .u8 ((byteAt x 31 : Nat) : Int)) rfl
  have hr : w1.rangeAt b off (bytesC (wbs x)) := hcell
  have hu : Try.prog.underlying 71 = some (.array 32 5) := by kernel_rfl
  have hi : (Try.prog.info? 71).map (·.size) = some (bytesC (wbs x)).length := by rw [bytesC_len, wbs_len]; kernel_rfl
  have hat : ∀ W, (Instr.arrayAt 71 (.slice (some ⟨b, off, none⟩) 32 c)).run Try.prog W = .ok (.pointer (some ⟨b, off, none⟩)) W := fun W => run_arrayAt W 71 5 32 _ 32 c hu (Nat.le_refl _)
  have HR := Lib.hid hr
  have HU := Lib.hid hu
  have HI := Lib.hid hi
  clear hcell hr hu hi
  have hbx : Blk w1 w.heap.size #[.int .u64 (x 0 : Nat), .int .u64 (x 1 : Nat), .int .u64 (x 2 : Nat), .int .u64 (x 3 : Nat), .int .u64 l] 37 := by
    unfold Blk; rw [hb.block _ (by simp)]; exact heap_alloc_new _ _
  have hb0 : Below w.heap.size w w1 := (World.below_alloc w _).trans (hb.mono (by simp))
  clear hb
  go_wp2_with (first
    | (refine wpList_load_mid rfl 71 (.tmp 7) (by with_reducible rfl) _ _ rfl _ _ HR.out HU.out rfl HI.out ?_)
    | (refine wpList_store_row rfl 71 (.tmp 3) (.tmp 8) (by with_reducible rfl) w1.heap.size (bytesC (wbs x)).toArray rfl rfl 71 _ (heap_alloc_new _ _) (by simpa using HI.out) (by simp [bytesC_len, wbs_len]) (by simp [bytesC, byteC, Value.oneCell']) ?_))
  rw [World.setRow_alloc_new]
  replace hbx := hbx.grow (World.below_alloc w1 (.cells (bytesC (wbs x)).toArray 71))
  have hby : Blk (w1.alloc (.cells (bytesC (wbs x)).toArray 71)) w1.heap.size (bytesC (wbs x)).toArray 71 := heap_alloc_new _ _
  have hbz : Below w.heap.size w (w1.alloc (.cells (bytesC (wbs x)).toArray 71)) := hb0.alloc hb0.size _
  generalize hw2 : w1.alloc (.cells (bytesC (wbs x)).toArray 71) = w2 at *
  have hsz := hbz.size
  go_wp2_with fail
  refine wp_region_grow w2.heap.size 3 0 0 [(0, 0, 512, 8), (1, 0, 1024, 2), (2, 2, 2048, 1024), (3, 5, 4096, 2560), (4, 15, 4, 4096)] [(.p 0, 1), (.p 1, 3), (.p 2, 7)] [(3, 15), (4, 31)] _ (fun p hp => hp) (by first | omega | (simp; done) | (simp; omega)) (by kernel_rfl) (by kernel_rfl) (own1 hbx) ?_
  refine wpG_pure (i := 0) (v := ?v1x0) rfl rfl (by rfl) (fun w hB hG K hK => ?h1x0) ?_
  case h1x0 =>
    go_wp2_with fail
    exact hK _ (Below.refl _ _)
  simp only [List.set_cons_zero, List.set_cons_succ]
  refine wpG_pure (i := 1) (v := ?v1x1) rfl rfl (by rfl) (fun w hB hG K hK => ?h1x1) ?_
  case h1x1 =>
    go_wp2_with fail
    exact hK _ (Below.refl _ _)
  simp only [List.set_cons_zero, List.set_cons_succ]
  refine wpG_pure (i := 2) (v := ?v1x2) rfl rfl (by rfl) (fun w hB hG K hK => ?h1x2) ?_
  case h1x2 =>
    have hcx := hG.cell 0 rfl 4
    have cx := hG.cell 0 rfl
    go_wp2_with fail
    exact hK _ (Below.refl _ _)
  simp only [List.set_cons_zero, List.set_cons_succ]
  refine wpG_nil (fun w3 hb1 hG1 => ?_)
  simp only [List.append_eq, List.cons_append, List.nil_append, List.drop_succ_cons, List.drop_zero, List.drop_nil]
  have O1 := Own.of hG1
  try simp only [List.setIfInBounds_toArray, List.set_cons_zero, List.set_cons_succ] at O1
  have bw1 : Below w2.heap.size w2 w3 := Below.trans (by go_grown) (Below.mono hb1 (by first | omega | (simp; done) | (simp; omega)))
  have zw1 := Below.size hb1
  try simp only [World.size_alloc, World.size_drew, World.size_setCell] at zw1
  have c1x0 := O1.cell 0 rfl
  have f1x0 := O1.free 0 rfl
  have l1x0 := O1.lt 0 rfl
  have l1x0d0 := le_up 0 l1x0
  have l1x0d1 := le_up 1 l1x0
  simp only [upN] at l1x0d0 l1x0d1
  have HO1 := Lib.hid O1
  clear O1 hb1

  have hS : SlAt w3 (some ⟨w1.heap.size, 0, none⟩) (bytesC (wbs x)) := (SlAt.of_blk hby).grow bw1
  have hF := ofs_any (some ⟨w1.heap.size, 0, none⟩) (wbs x) 32 l w3 hS (by rw [wbs_len]; omega) (by rw [wbs_len]; omega)
  rw [wbs_len] at hF
  have HF := Lib.hid hF
  have HB := Lib.hid (hbz.trans (bw1.mono hsz))
  clear hS hF hby hbx bw1
  go_wp2_with fail
  refine HF.out.mono ?_
  rintro e w4 ⟨A', c', rfl, hs', hc', hb4, hT⟩
  have hbw := HB.out.trans (hb4.mono HB.out.size)
  clear hb4
  go_wp2_with fail
  go_ret
  exact ⟨_, _, rfl, hs', hc', hbw, hT.mono HB.out.size⟩

theorem arr32_wbs (x : Nat → Nat) : (arr32 fun j => ((byteAt x (31 - j) : Nat) : Int)) = (bytesC (wbs x)).toArray := rfl
set_option maxRecDepth 20000 in
set_option maxHeartbeats 2000000 in
theorem refCells_any (x : Nat → Nat) (l : Int) (w : World) (hx : ∀ q, x q < 2 ^ 64) :
    Calls Try.prog 21 #[valV x l] w (Gives w (cellsC (wcells x l)) 32) := by
  have hW := fun W => refWordBytes_any x W hx
  rw [arr32_wbs] at hW
  have HW := Lib.hid hW
  clear hx hW
  go_enter Try.func21, Try.ntmps21
  go_wp2_with fail
  refine (HW.out _).mono ?_
  rintro e w1 ⟨rfl, hb⟩
  have hi : (Try.prog.info? 71).map (·.size) = some (bytesC (wbs x)).length := by rw [bytesC_len, wbs_len]; kernel_rfl
  have HI := Lib.hid hi
  clear hi
  have hbx : Blk w1 w.heap.size #[.int .u64 (x 0 : Nat), .int .u64 (x 1 : Nat), .int .u64 (x 2 : Nat), .int .u64 (x 3 : Nat), .int .u64 l] 37 := by
    unfold Blk; rw [hb.block _ (by simp)]; exact heap_alloc_new _ _
  have hb0 : Below w.heap.size w w1 := (World.below_alloc w _).trans (hb.mono (by simp))
  clear hb
  go_wp2_with (first
    | (refine wpList_store_row rfl 71 (.tmp 3) (.tmp 6) (by with_reducible rfl) w1.heap.size (bytesC (wbs x)).toArray rfl rfl 71 _ (heap_alloc_new _ _) (by simpa using HI.out) (by simp [bytesC_len, wbs_len]) (by simp [bytesC, byteC, Value.oneCell']) ?_))
  rw [World.setRow_alloc_new]
  replace hbx := hbx.grow (World.below_alloc w1 (.cells (bytesC (wbs x)).toArray 71))
  have hby : Blk (w1.alloc (.cells (bytesC (wbs x)).toArray 71)) w1.heap.size (bytesC (wbs x)).toArray 71 := heap_alloc_new _ _
  have hbz : Below w.heap.size w (w1.alloc (.cells (bytesC (wbs x)).toArray 71)) := hb0.alloc hb0.size _
  generalize hw2 : w1.alloc (.cells (bytesC (wbs x)).toArray 71) = w2 at *
  have hsz := hbz.size
  go_wp2_with fail
  refine wp_region_grow w2.heap.size 3 0 0 [(0, 0, 128, 8), (1, 0, 256, 2), (2, 2, 512, 256), (3, 5, 1024, 640), (4, 15, 4, 1024)] [(.p 0, 1), (.p 1, 3), (.p 2, 7)] [(3, 15), (4, 31)] _ (fun p hp => hp) (by first | omega | (simp; done) | (simp; omega)) (by kernel_rfl) (by kernel_rfl) (own1 hbx) ?_
  refine wpG_pure (i := 0) (v := ?v1x0) rfl rfl (by rfl) (fun w hB hG K hK => ?h1x0) ?_
  case h1x0 =>
    go_wp2_with fail
    exact hK _ (Below.refl _ _)
  simp only [List.set_cons_zero, List.set_cons_succ]
  refine wpG_pure (i := 1) (v := ?v1x1) rfl rfl (by rfl) (fun w hB hG K hK => ?h1x1) ?_
  case h1x1 =>
    go_wp2_with fail
    exact hK _ (Below.refl _ _)
  simp only [List.set_cons_zero, List.set_cons_succ]
  refine wpG_pure (i := 2) (v := ?v1x2) rfl rfl (by rfl) (fun w hB hG K hK => ?h1x2) ?_
  case h1x2 =>
    have hcx := hG.cell 0 rfl 4
    have cx := hG.cell 0 rfl
    go_wp2_with fail
    exact hK _ (Below.refl _ _)
  simp only [List.set_cons_zero, List.set_cons_succ]
  refine wpG_nil (fun w3 hb1 hG1 => ?_)
  simp only [List.append_eq, List.cons_append, List.nil_append, List.drop_succ_cons, List.drop_zero, List.drop_nil]
  have O1 := Own.of hG1
  try simp only [List.setIfInBounds_toArray, List.set_cons_zero, List.set_cons_succ] at O1
  have bw1 : Below w2.heap.size w2 w3 := Below.trans (by go_grown) (Below.mono hb1 (by first | omega | (simp; done) | (simp; omega)))
  have zw1 := Below.size hb1
  try simp only [World.size_alloc, World.size_drew, World.size_setCell] at zw1
  have c1x0 := O1.cell 0 rfl
  have f1x0 := O1.free 0 rfl
  have l1x0 := O1.lt 0 rfl
  have l1x0d0 := le_up 0 l1x0
  have l1x0d1 := le_up 1 l1x0
  simp only [upN] at l1x0d0 l1x0d1
  have HO1 := Lib.hid O1
  clear O1 hb1

  have hS : SlAt w3 (some ⟨w1.heap.size, 0, none⟩) (bytesC (wbs x)) := (SlAt.of_blk hby).grow bw1
  have hF := refOf_any (some ⟨w1.heap.size, 0, none⟩) (wbs x) 32 l w3 hS (by rw [wbs_len]; omega) (by rw [wbs_len]; omega)
  rw [wbs_len] at hF
  have HF := Lib.hid hF
  have HB := Lib.hid (hbz.trans (bw1.mono hsz))
  clear hS hF hby hbx bw1
  go_wp2_with fail
  refine HF.out.mono ?_
  rintro e w4 ⟨A', c', rfl, hs', hc', hb4, hT⟩
  have hbw := HB.out.trans (hb4.mono HB.out.size)
  clear hb4
  go_wp2_with fail
  go_ret
  exact ⟨_, _, rfl, hs', hc', hbw, hT.mono HB.out.size⟩
end Go.Proofs.Ytknkepokkenokaa
