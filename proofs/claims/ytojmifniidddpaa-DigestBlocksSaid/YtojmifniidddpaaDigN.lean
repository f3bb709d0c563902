/- A number laid on a state. -/
import Derived.Test.YtojmifniidddpaaDigM
import Derived.Test.YtojmifniidddpaaDigF
set_option linter.unusedVariables false
set_option linter.unusedSimpArgs false
namespace Go.Proofs.Ytojmifniidddpaa
open Go.RowKit

def nth (l : List (BitVec 64)) (q : Nat) : BitVec 64 := l.getD q 0
theorem bvA_at (l : List (BitVec 64)) {q : Nat} (h : q < l.length) : (bvA l)[q]? = some (.int .u64 ((nth l q).toNat : Int)) := by
  unfold bvA nth
  rw [List.getElem?_toArray, List.getElem?_map, List.getD_eq_getElem?_getD, List.getElem?_eq_getElem h]
  rfl
theorem bvA_set (l : List (BitVec 64)) (q : Nat) (x : BitVec 64) : (bvA l).setIfInBounds q (.int .u64 (x.toNat : Int)) = bvA (l.set q x) := by
  unfold bvA
  rw [List.setIfInBounds_toArray, ← List.map_set]
theorem xor_bv (a : BitVec 64) {y : Nat} (hy : y < 2 ^ 64) : bits .xor .u64 (a.toNat : Int) ((y : Nat) : Int) = (((a ^^^ BitVec.ofNat 64 y).toNat : Nat) : Int) := by
  show IntKind.u64.wrap ((BitVec.ofInt 64 ((a.toNat : Nat) : Int) ^^^ BitVec.ofInt 64 ((y : Nat) : Int)).toNat : Int) = _
  rw [BitVec.ofInt_natCast, BitVec.ofInt_natCast, BitVec.ofNat_toNat, BitVec.setWidth_eq]
  exact IntWalk.u64_in _ (by have := (a ^^^ BitVec.ofNat 64 y).isLt; omega)
set_option maxRecDepth 20000 in
set_option maxHeartbeats 1000000 in
/-- A number laid on one of a state's. -/
theorem lay_any (l : List (BitVec 64)) (hl : l.length = 25) (i y : Nat) (hi : i < 25) (hy : y < 2 ^ 64) (b gs : Nat) (w : World) (hb : Blk w b #[.pointer (some ⟨gs, 0, none⟩)] 52) (hg : Blk w gs (bvA l) 55) (hne : b ≠ gs) :
    Calls Try.prog 26 #[.int .i64 (i : Nat), .int .u64 (y : Nat), .pointer (some ⟨b, 0, none⟩)] w fun e w' => (∃ v, e = .returned v) ∧ Blk w' gs (bvA (l.set i (nth l i ^^^ BitVec.ofNat 64 y))) 55 ∧ w.grownBy w' (some gs) := by
  have hx := xor_bv (nth l i) hy
  have HO0 := Lib.hid (Own.cons hb (Own.cons hg (Own.nil w)))
  have lb := hb.lt
  have lg := hg.lt
  have hcy0 := hb.cell 0
  clear hb hg
  go_enter Try.func26, Try.ntmps26
  go_wp2_with fail
  refine wp_region_grow w.heap.size 11 0 0 [(0, 0, 32, 4), (1, 0, 64, 1), (2, 1, 128, 32), (3, 4, 256, 128), (4, 10, 512, 320), (5, 16, 1024, 512), (6, 0, 2048, 2), (7, 96, 4096, 3072), (8, 1, 8192, 32), (9, 256, 16384, 8192), (10, 767, 32768, 16448), (11, 1279, 0, 36864)] [(.p 0, 1), (.p 1, 3), (.p 2, 7), (.p 3, 15), (.p 4, 31), (.p 5, 63), (.p 6, 127), (.p 7, 255), (.p 8, 511), (.p 9, 1023), (.p 10, 2047)] [(11, 4095)] _ (fun p hp => hp) (by first | omega | (simp; done) | (simp; omega)) (by kernel_rfl) (by kernel_rfl) HO0.out ?_
  refine wpG_pure (i := 0) (v := ?v1x0) rfl rfl (by rfl) (fun w hB hG K hK => ?h1x0) ?_
  case h1x0 =>
    have hcy := hG.cell 0 rfl 0
    have cx := Own.cell hG 0 rfl
    go_wp2_with fail
    exact hK _ (Below.refl _ _)
  simp only [List.set_cons_zero, List.set_cons_succ]
  refine wpG_move (i := 1) rfl rfl rfl (by rfl) rfl ?_
  simp only [List.set_cons_zero, List.set_cons_succ]
  refine wpG_pure (i := 2) (v := ?v1x2) rfl rfl (by rfl) (fun w hB hG K hK => ?h1x2) ?_
  case h1x2 =>
    go_wp2_with fail
    exact hK _ (Below.refl _ _)
  simp only [List.set_cons_zero, List.set_cons_succ]
  refine wpG_pure (i := 3) (v := ?v1x3) rfl rfl (by rfl) (fun w hB hG K hK => ?h1x3) ?_
  case h1x3 =>
    go_wp2_with fail
    exact hK _ (Below.refl _ _)
  simp only [List.set_cons_zero, List.set_cons_succ]
  refine wpG_pure (i := 4) (v := ?v1x4) rfl rfl (by rfl) (fun w hB hG K hK => ?h1x4) ?_
  case h1x4 =>
    go_wp2_with fail
    exact hK _ (Below.refl _ _)
  simp only [List.set_cons_zero, List.set_cons_succ]
  refine wpG_pure (i := 5) (v := ?v1x5) rfl rfl (by rfl) (fun w hB hG K hK => ?h1x5) ?_
  case h1x5 =>
    have hcx := (hG.cell 1 rfl i).trans (bvA_at l (show i < l.length by omega))
    have cx := Own.cell hG 1 rfl
    go_wp2_with fail
    exact hK _ (Below.refl _ _)
  simp only [List.set_cons_zero, List.set_cons_succ]
  refine wpG_move (i := 6) rfl rfl rfl (by rfl) rfl ?_
  simp only [List.set_cons_zero, List.set_cons_succ]
  refine wpG_pure (i := 7) (v := ?v1x7) rfl rfl (by rfl) (fun w hB hG K hK => ?h1x7) ?_
  case h1x7 =>
    go_wp2_with fail
    exact hK _ (Below.refl _ _)
  simp only [List.set_cons_zero, List.set_cons_succ]
  refine wpG_pure (i := 8) (v := ?v1x8) rfl rfl (by rfl) (fun w hB hG K hK => ?h1x8) ?_
  case h1x8 =>
    go_wp2_with fail
    exact hK _ (Below.refl _ _)
  simp only [List.set_cons_zero, List.set_cons_succ]
  refine wpG_pure (i := 9) (v := ?v1x9) rfl rfl (by rfl) (fun w hB hG K hK => ?h1x9) ?_
  case h1x9 =>
    go_wp2_with fail
    exact hK _ (Below.refl _ _)
  simp only [List.set_cons_zero, List.set_cons_succ]
  refine wpG_pure (i := 10) (v := ?v1x10) rfl rfl (by rfl) (fun w hB hG K hK => ?h1x10) ?_
  case h1x10 =>
    go_wp2_with fail
    exact hK _ (Below.refl _ _)
  simp only [List.set_cons_zero, List.set_cons_succ]
  refine wpG_nil (fun w1 hb1 hG1 => ?_)
  simp only [List.append_eq, List.cons_append, List.nil_append, List.drop_succ_cons, List.drop_zero, List.drop_nil]
  have O1 := Own.of hG1
  try simp only [List.setIfInBounds_toArray, List.set_cons_zero, List.set_cons_succ] at O1
  have bw1 : Below w.heap.size w w1 := Below.trans (by go_grown) (Below.mono hb1 (by first | omega | (simp; done) | (simp; omega)))
  have zw1 := Below.size hb1
  try simp only [World.size_alloc, World.size_drew, World.size_setCell] at zw1
  have c1x0 := Own.cell O1 0 rfl
  have f1x0 := Own.free O1 0 rfl
  have l1x0 := Own.lt O1 0 rfl
  have l1x0d0 := le_up 0 l1x0
  have l1x0d1 := le_up 1 l1x0
  simp only [upN] at l1x0d0 l1x0d1
  have c1x1 := Own.cell O1 1 rfl
  have f1x1 := Own.free O1 1 rfl
  have l1x1 := Own.lt O1 1 rfl
  have l1x1d0 := le_up 0 l1x1
  have l1x1d1 := le_up 1 l1x1
  simp only [upN] at l1x1d0 l1x1d1
  have HO1 := Lib.hid O1
  clear O1 hb1

  have hcs := (HO1.out.cell 1 rfl i).trans (bvA_at l (show i < l.length by omega))
  have hfs := HO1.out.free 1 rfl i
  have hbk := (HO1.out.get 1 rfl).set i (.int .u64 ((nth l i ^^^ BitVec.ofNat 64 y).toNat : Int))
  rw [bvA_set] at hbk
  have HB := Lib.hid hbk
  have HG := Lib.hid (grownBy_setr (grownBy_below bw1 (some gs)) gs i (.int .u64 ((nth l i ^^^ BitVec.ofNat 64 y).toNat : Int)))
  clear hbk bw1 c1x1
  go_wp2_with fail
  go_end0
  exact ⟨⟨_, rfl⟩, HB.out, HG.out⟩
end Go.Proofs.Ytojmifniidddpaa
