/- mill.root. No condition. -/
import Derived.Test.YtjlijocnmicdpaaMiT
set_option linter.unusedVariables false
set_option linter.unusedSimpArgs false
set_option maxRecDepth 100000
namespace Go.Proofs.Ytjlijocnmicdpaa
open Go.RowKit

abbrev yR (X : BitVec 256) (b0 b1 : BitVec 64) : BitVec 256 := (0 : BitVec 256) + re X + mkW b0 b1 0#64 0#64
theorem yR_eq (X : BitVec 256) (b0 b1 : BitVec 64) : yR X b0 b1 = X + mkW b0 b1 0#64 0#64 := by
  unfold yR
  rw [re_eq, show (0 : BitVec 256) + X = X from BitVec.zero_add X]
abbrev endB (c0 c1 : BitVec 64) : Bool := true != (((c0.toNat : Int) == 0) && (((c1.toNat : Int) == 0) && (((0 : Int) == 0) && (((0 : Int) == 0) && true))))
/-- The bit that is tried. -/
def bitP : Nat → BitVec 64 × BitVec 64
  | 0 => (0#64, 8#64)
  | k + 1 => ((bitP k).1 >>> (1 : Nat) ||| (bitP k).2 <<< (63 : Nat), (bitP k).2 >>> (1 : Nat))
theorem bit_end (k : Nat) (h : k < 68) : endB (bitP (k + 1)).1 (bitP (k + 1)).2 = decide (k ≠ 67) := by
  have : ∀ k : Fin 68, endB (bitP (k.val + 1)).1 (bitP (k.val + 1)).2 = decide (k.val ≠ 67) := by decide +kernel
  exact this ⟨k, h⟩
def bitW (k : Nat) : BitVec 256 := mkW (bitP k).1 (bitP k).2 0#64 0#64
def topW (p : BitVec 64) : BitVec 256 := mkW 0#64 0#64 p 0#64
def rtN (p : BitVec 64) : Nat → BitVec 256
  | 0 => 0#256
  | k + 1 => if ordW ((rtN p k + bitW k) * (rtN p k + bitW k)) (topW p) ≤ 0 then rtN p k + bitW k else rtN p k
theorem root_1 (p : BitVec 64) : ∀ r, Is (evCs ET 60 (takeSeq 1 (Try.f26.body.getD .skip)) ⟨pat (inLive 0 [.bv .u64 p]) r 0 Try.f26.ntmps, ⟨[], [], allW⟩⟩ (chK [(0, .bv .u64 p), (2, .int .u64 true 0)] Try.f26.ntmps [] [])) := fun r => ev_eq [] (chR [(0, .bv .u64 p), (2, .int .u64 true 0)] Try.f26.ntmps [] []) (by kernel_rfl) trivial
theorem root_2 (p : BitVec 64) : ∀ r, Is (evT ET 60 (.code (sL (scB (dropSeq 1 (Try.f26.body.getD .skip))))) ⟨pat [(0, .bv .u64 p), (2, .int .u64 true 0)] r 0 Try.f26.ntmps, ⟨[], [], allW⟩⟩ (selK [0] .normal [(2, .int .u64 true 0), (3, .ptr 0 0)] Try.f26.ntmps [AIt.cells [.int .u64 true 0, .int .u64 true 0, .bv .u64 p, .int .u64 true 0] 80])) := fun r => ev_eq [] (selR [(2, .int .u64 true 0), (3, .ptr 0 0)] Try.f26.ntmps [AIt.cells [.int .u64 true 0, .int .u64 true 0, .bv .u64 p, .int .u64 true 0] 80]) (by kernel_rfl) trivial
theorem root_3 (p : BitVec 64) (h : AllE [(true, true), (true, true)]) : ∀ r, Is (evT ET 60 (.code (sL (sR (scB (dropSeq 1 (Try.f26.body.getD .skip)))))) ⟨pat [(2, .int .u64 true 0), (3, .ptr 0 0)] r 0 Try.f26.ntmps, ⟨[AIt.cells [.int .u64 true 0, .int .u64 true 0, .bv .u64 p, .int .u64 true 0] 80], [], allW⟩⟩ (selK [0, 2, 3] .normal [(2, .int .u64 true 0), (3, .ptr 0 0), (4, .ptr 1 0), (5, .ptr 2 0)] Try.f26.ntmps [AIt.cells [.int .u64 true 0, .int .u64 true 0, .bv .u64 p, .int .u64 true 0] 80, AIt.cells [.int .u64 true 0, .int .u64 true 0, .int .u64 true 0, .int .u64 true 0] 80, AIt.cells (wC ((0 : BitVec 256) + mkW 0#64 8#64 0#64 0#64)) 80])) := fun r => ev_eq [(true, true), (true, true)] (selR [(2, .int .u64 true 0), (3, .ptr 0 0), (4, .ptr 1 0), (5, .ptr 2 0)] Try.f26.ntmps [AIt.cells [.int .u64 true 0, .int .u64 true 0, .bv .u64 p, .int .u64 true 0] 80, AIt.cells [.int .u64 true 0, .int .u64 true 0, .int .u64 true 0, .int .u64 true 0] 80, AIt.cells (wC ((0 : BitVec 256) + mkW 0#64 8#64 0#64 0#64)) 80]) (by kernel_rfl) h
theorem root_tt (p b0 b1 : BitVec 64) (X : BitVec 256) (h : AllE [(true, true), (true, true), (decide (ordW (re (re (yR X b0 b1) * re (yR X b0 b1))) (mkW 0#64 0#64 p 0#64) ≤ 0), true), (endB (b0 >>> (1 : Nat) ||| b1 <<< (63 : Nat)) (b1 >>> (1 : Nat)), true)]) : ∀ r, Is (evT ET 60 (.code (lbR (scB (dropSeq 1 (Try.f26.body.getD .skip))) 0)) ⟨pat [(2, .int .u64 true 0), (3, .ptr 0 0), (4, .ptr 1 0), (5, .ptr 2 0)] r 0 Try.f26.ntmps, ⟨[AIt.cells [.int .u64 true 0, .int .u64 true 0, .bv .u64 p, .int .u64 true 0] 80, AIt.cells (wC (X)) 80, AIt.cells [.bv .u64 (b0), .bv .u64 (b1), .int .u64 true 0, .int .u64 true 0] 80], [true, true], allW⟩⟩ (selK [0, 1, 2] (.goto 0) [(2, .int .u64 true 0), (3, .ptr 0 0), (4, .ptr 1 0), (5, .ptr 2 0)] Try.f26.ntmps [AIt.cells [.int .u64 true 0, .int .u64 true 0, .bv .u64 p, .int .u64 true 0] 80, AIt.cells (wC (yR X b0 b1)) 80, AIt.cells [.bv .u64 (b0 >>> (1 : Nat) ||| b1 <<< (63 : Nat)), .bv .u64 (b1 >>> (1 : Nat)), .int .u64 true 0, .int .u64 true 0] 80])) := fun r => ev_eq [(true, true), (true, true), (decide (ordW (re (re (yR X b0 b1) * re (yR X b0 b1))) (mkW 0#64 0#64 p 0#64) ≤ 0), true), (endB (b0 >>> (1 : Nat) ||| b1 <<< (63 : Nat)) (b1 >>> (1 : Nat)), true)] (selR [(2, .int .u64 true 0), (3, .ptr 0 0), (4, .ptr 1 0), (5, .ptr 2 0)] Try.f26.ntmps [AIt.cells [.int .u64 true 0, .int .u64 true 0, .bv .u64 p, .int .u64 true 0] 80, AIt.cells (wC (yR X b0 b1)) 80, AIt.cells [.bv .u64 (b0 >>> (1 : Nat) ||| b1 <<< (63 : Nat)), .bv .u64 (b1 >>> (1 : Nat)), .int .u64 true 0, .int .u64 true 0] 80]) (by kernel_rfl) h
theorem root_tf (p b0 b1 : BitVec 64) (X : BitVec 256) (h : AllE [(true, true), (true, true), (decide (ordW (re (re (yR X b0 b1) * re (yR X b0 b1))) (mkW 0#64 0#64 p 0#64) ≤ 0), true), (endB (b0 >>> (1 : Nat) ||| b1 <<< (63 : Nat)) (b1 >>> (1 : Nat)), false)]) : ∀ r, Is (evT ET 60 (.code (lbR (scB (dropSeq 1 (Try.f26.body.getD .skip))) 0)) ⟨pat [(2, .int .u64 true 0), (3, .ptr 0 0), (4, .ptr 1 0), (5, .ptr 2 0)] r 0 Try.f26.ntmps, ⟨[AIt.cells [.int .u64 true 0, .int .u64 true 0, .bv .u64 p, .int .u64 true 0] 80, AIt.cells (wC (X)) 80, AIt.cells [.bv .u64 (b0), .bv .u64 (b1), .int .u64 true 0, .int .u64 true 0] 80], [true, false], allW⟩⟩ (selK [0, 1, 2] .ret [(2, .bv .u64 (limb (yR X b0 b1) 0))] Try.f26.ntmps [AIt.cells [.int .u64 true 0, .int .u64 true 0, .bv .u64 p, .int .u64 true 0] 80, AIt.cells (wC (yR X b0 b1)) 80, AIt.cells [.bv .u64 (b0 >>> (1 : Nat) ||| b1 <<< (63 : Nat)), .bv .u64 (b1 >>> (1 : Nat)), .int .u64 true 0, .int .u64 true 0] 80])) := fun r => ev_eq [(true, true), (true, true), (decide (ordW (re (re (yR X b0 b1) * re (yR X b0 b1))) (mkW 0#64 0#64 p 0#64) ≤ 0), true), (endB (b0 >>> (1 : Nat) ||| b1 <<< (63 : Nat)) (b1 >>> (1 : Nat)), false)] (selR [(2, .bv .u64 (limb (yR X b0 b1) 0))] Try.f26.ntmps [AIt.cells [.int .u64 true 0, .int .u64 true 0, .bv .u64 p, .int .u64 true 0] 80, AIt.cells (wC (yR X b0 b1)) 80, AIt.cells [.bv .u64 (b0 >>> (1 : Nat) ||| b1 <<< (63 : Nat)), .bv .u64 (b1 >>> (1 : Nat)), .int .u64 true 0, .int .u64 true 0] 80]) (by kernel_rfl) h
theorem root_ft (p b0 b1 : BitVec 64) (X : BitVec 256) (h : AllE [(true, true), (true, true), (decide (ordW (re (re (yR X b0 b1) * re (yR X b0 b1))) (mkW 0#64 0#64 p 0#64) ≤ 0), false), (endB (b0 >>> (1 : Nat) ||| b1 <<< (63 : Nat)) (b1 >>> (1 : Nat)), true)]) : ∀ r, Is (evT ET 60 (.code (lbR (scB (dropSeq 1 (Try.f26.body.getD .skip))) 0)) ⟨pat [(2, .int .u64 true 0), (3, .ptr 0 0), (4, .ptr 1 0), (5, .ptr 2 0)] r 0 Try.f26.ntmps, ⟨[AIt.cells [.int .u64 true 0, .int .u64 true 0, .bv .u64 p, .int .u64 true 0] 80, AIt.cells (wC (X)) 80, AIt.cells [.bv .u64 (b0), .bv .u64 (b1), .int .u64 true 0, .int .u64 true 0] 80], [false, true], allW⟩⟩ (selK [0, 1, 2] (.goto 0) [(2, .int .u64 true 0), (3, .ptr 0 0), (4, .ptr 1 0), (5, .ptr 2 0)] Try.f26.ntmps [AIt.cells [.int .u64 true 0, .int .u64 true 0, .bv .u64 p, .int .u64 true 0] 80, AIt.cells (wC (X)) 80, AIt.cells [.bv .u64 (b0 >>> (1 : Nat) ||| b1 <<< (63 : Nat)), .bv .u64 (b1 >>> (1 : Nat)), .int .u64 true 0, .int .u64 true 0] 80])) := fun r => ev_eq [(true, true), (true, true), (decide (ordW (re (re (yR X b0 b1) * re (yR X b0 b1))) (mkW 0#64 0#64 p 0#64) ≤ 0), false), (endB (b0 >>> (1 : Nat) ||| b1 <<< (63 : Nat)) (b1 >>> (1 : Nat)), true)] (selR [(2, .int .u64 true 0), (3, .ptr 0 0), (4, .ptr 1 0), (5, .ptr 2 0)] Try.f26.ntmps [AIt.cells [.int .u64 true 0, .int .u64 true 0, .bv .u64 p, .int .u64 true 0] 80, AIt.cells (wC (X)) 80, AIt.cells [.bv .u64 (b0 >>> (1 : Nat) ||| b1 <<< (63 : Nat)), .bv .u64 (b1 >>> (1 : Nat)), .int .u64 true 0, .int .u64 true 0] 80]) (by kernel_rfl) h
theorem root_ff (p b0 b1 : BitVec 64) (X : BitVec 256) (h : AllE [(true, true), (true, true), (decide (ordW (re (re (yR X b0 b1) * re (yR X b0 b1))) (mkW 0#64 0#64 p 0#64) ≤ 0), false), (endB (b0 >>> (1 : Nat) ||| b1 <<< (63 : Nat)) (b1 >>> (1 : Nat)), false)]) : ∀ r, Is (evT ET 60 (.code (lbR (scB (dropSeq 1 (Try.f26.body.getD .skip))) 0)) ⟨pat [(2, .int .u64 true 0), (3, .ptr 0 0), (4, .ptr 1 0), (5, .ptr 2 0)] r 0 Try.f26.ntmps, ⟨[AIt.cells [.int .u64 true 0, .int .u64 true 0, .bv .u64 p, .int .u64 true 0] 80, AIt.cells (wC (X)) 80, AIt.cells [.bv .u64 (b0), .bv .u64 (b1), .int .u64 true 0, .int .u64 true 0] 80], [false, false], allW⟩⟩ (selK [0, 1, 2] .ret [(2, .bv .u64 (limb (X) 0))] Try.f26.ntmps [AIt.cells [.int .u64 true 0, .int .u64 true 0, .bv .u64 p, .int .u64 true 0] 80, AIt.cells (wC (X)) 80, AIt.cells [.bv .u64 (b0 >>> (1 : Nat) ||| b1 <<< (63 : Nat)), .bv .u64 (b1 >>> (1 : Nat)), .int .u64 true 0, .int .u64 true 0] 80])) := fun r => ev_eq [(true, true), (true, true), (decide (ordW (re (re (yR X b0 b1) * re (yR X b0 b1))) (mkW 0#64 0#64 p 0#64) ≤ 0), false), (endB (b0 >>> (1 : Nat) ||| b1 <<< (63 : Nat)) (b1 >>> (1 : Nat)), false)] (selR [(2, .bv .u64 (limb (X) 0))] Try.f26.ntmps [AIt.cells [.int .u64 true 0, .int .u64 true 0, .bv .u64 p, .int .u64 true 0] 80, AIt.cells (wC (X)) 80, AIt.cells [.bv .u64 (b0 >>> (1 : Nat) ||| b1 <<< (63 : Nat)), .bv .u64 (b1 >>> (1 : Nat)), .int .u64 true 0, .int .u64 true 0] 80]) (by kernel_rfl) h
theorem root_any (p : BitVec 64) (w : World) : Calls Try.prog 26 #[.int .u64 (p.toNat : Int)] w fun e w' => e = .returned (.int .u64 ((limb (rtN p 68) 0).toNat : Int)) ∧ Below w.heap.size w w' := by
  refine ev_enter (E := ET) (fn := Try.f26) (c := (Try.f26.body.getD .skip)) Try.func26 (by kernel_rfl) (args := [.bv .u64 p]) (Args := [.int .u64 (p.toNat : Int)]) (show 1 ≤ Try.f26.ntmps by decide) (.cons (.bv rfl) .nil) (rd_no _ _) (ds := []) (wr := allW) fun a0 hP0 hB0 => ?_
  refine ev_seqs ET_ok 60 1 (root_1 p) hP0 hB0 fun a1 Hr1 w1 hP1 hB1 _ => ?_
  refine ev_iter (E := ET) (Ds := []) (n0 := w.heap.size) (w0 := w) (n := Try.f26.ntmps) (c := (dropSeq 1 (Try.f26.body.getD .skip))) (by kernel_rfl) 0 68 (by decide) (by kernel_rfl) (fun _ => [(2, .int .u64 true 0), (3, .ptr 0 0), (4, .ptr 1 0), (5, .ptr 2 0)]) (fun k => [AIt.cells [.int .u64 true 0, .int .u64 true 0, .bv .u64 p, .int .u64 true 0] 80, AIt.cells (wC (rtN p k)) 80, AIt.cells [.bv .u64 ((bitP k).1), .bv .u64 ((bitP k).2), .int .u64 true 0, .int .u64 true 0] 80]) ?_ ?_
  · intro k hk a Hr w' Q' hP hB hnx hend
    by_cases hle : ordW ((rtN p k + bitW k) * (rtN p k + bitW k)) (topW p) ≤ 0
    · have hr : rtN p (k + 1) = yR (rtN p k) (bitP k).1 (bitP k).2 := by rw [yR_eq, rtN, if_pos hle]; rfl
      by_cases hl : k = 67
      · have he : endB (bitP (k + 1)).1 (bitP (k + 1)).2 = false := by rw [bit_end k hk, hl]; rfl
        refine ev_codeS ET_ok 60 [0, 1, 2] .ret (by kernel_rfl) (root_tf p (bitP k).1 (bitP k).2 (rtN p k) (allE_cons rfl (allE_cons rfl (allE_cons (by rw [re_eq, re_eq, yR_eq]; exact decide_eq_true hle) (allE_cons he allE_nil))))) hP hB fun a2 Hr2 w2 hP2 hB2 => hend _ a2 w2 (fun i h => by cases h) ?_
        rw [← hr, hl] at hP2 hB2
        exact ev_done ET_ok (V := .int .u64 ((limb (rtN p 68) 0).toNat : Int)) (r := .bv .u64 (limb (rtN p 68) 0)) (fn := Try.f26) (fun rs => by kernel_rfl) rfl (fun j r h => by cases h) hP2 hB2 (.inl rfl)
      · have he : endB (bitP (k + 1)).1 (bitP (k + 1)).2 = true := by rw [bit_end k hk]; exact decide_eq_true hl
        refine ev_codeS ET_ok 60 [0, 1, 2] (.goto 0) (by kernel_rfl) (root_tt p (bitP k).1 (bitP k).2 (rtN p k) (allE_cons rfl (allE_cons rfl (allE_cons (by rw [re_eq, re_eq, yR_eq]; exact decide_eq_true hle) (allE_cons he allE_nil))))) hP hB fun a2 Hr2 w2 hP2 hB2 => hnx (by omega) a2 Hr2 w2 ?_ ?_
        · show PatSt _ _ _ _ ⟨[AIt.cells [.int .u64 true 0, .int .u64 true 0, .bv .u64 p, .int .u64 true 0] 80, AIt.cells (wC (rtN p (k + 1))) 80, AIt.cells [.bv .u64 ((bitP (k + 1)).1), .bv .u64 ((bitP (k + 1)).2), .int .u64 true 0, .int .u64 true 0] 80], [], allW⟩ a2 Hr2
          rw [hr]; exact hP2
        · show Bun _ _ _ _ [AIt.cells [.int .u64 true 0, .int .u64 true 0, .bv .u64 p, .int .u64 true 0] 80, AIt.cells (wC (rtN p (k + 1))) 80, AIt.cells [.bv .u64 ((bitP (k + 1)).1), .bv .u64 ((bitP (k + 1)).2), .int .u64 true 0, .int .u64 true 0] 80] _ _
          rw [hr]; exact hB2
    · have hr : rtN p (k + 1) = rtN p k := by rw [rtN, if_neg hle]
      by_cases hl : k = 67
      · have he : endB (bitP (k + 1)).1 (bitP (k + 1)).2 = false := by rw [bit_end k hk, hl]; rfl
        refine ev_codeS ET_ok 60 [0, 1, 2] .ret (by kernel_rfl) (root_ff p (bitP k).1 (bitP k).2 (rtN p k) (allE_cons rfl (allE_cons rfl (allE_cons (by rw [re_eq, re_eq, yR_eq]; exact decide_eq_false hle) (allE_cons he allE_nil))))) hP hB fun a2 Hr2 w2 hP2 hB2 => hend _ a2 w2 (fun i h => by cases h) ?_
        rw [← hr, hl] at hP2 hB2
        exact ev_done ET_ok (V := .int .u64 ((limb (rtN p 68) 0).toNat : Int)) (r := .bv .u64 (limb (rtN p 68) 0)) (fn := Try.f26) (fun rs => by kernel_rfl) rfl (fun j r h => by cases h) hP2 hB2 (.inl rfl)
      · have he : endB (bitP (k + 1)).1 (bitP (k + 1)).2 = true := by rw [bit_end k hk]; exact decide_eq_true hl
        refine ev_codeS ET_ok 60 [0, 1, 2] (.goto 0) (by kernel_rfl) (root_ft p (bitP k).1 (bitP k).2 (rtN p k) (allE_cons rfl (allE_cons rfl (allE_cons (by rw [re_eq, re_eq, yR_eq]; exact decide_eq_false hle) (allE_cons he allE_nil))))) hP hB fun a2 Hr2 w2 hP2 hB2 => hnx (by omega) a2 Hr2 w2 ?_ ?_
        · show PatSt _ _ _ _ ⟨[AIt.cells [.int .u64 true 0, .int .u64 true 0, .bv .u64 p, .int .u64 true 0] 80, AIt.cells (wC (rtN p (k + 1))) 80, AIt.cells [.bv .u64 ((bitP (k + 1)).1), .bv .u64 ((bitP (k + 1)).2), .int .u64 true 0, .int .u64 true 0] 80], [], allW⟩ a2 Hr2
          rw [hr]; exact hP2
        · show Bun _ _ _ _ [AIt.cells [.int .u64 true 0, .int .u64 true 0, .bv .u64 p, .int .u64 true 0] 80, AIt.cells (wC (rtN p (k + 1))) 80, AIt.cells [.bv .u64 ((bitP (k + 1)).1), .bv .u64 ((bitP (k + 1)).2), .int .u64 true 0, .int .u64 true 0] 80] _ _
          rw [hr]; exact hB2
  · intro Q' h0
    refine wp_parts (by kernel_rfl) ?_
    refine ev_codeS ET_ok 60 [0] .normal (by kernel_rfl) (root_2 p) hP1 hB1 fun a2 Hr2 w2 hP2 hB2 => ?_
    show (sR (scB (dropSeq 1 (Try.f26.body.getD .skip)))).wp _ _ _ _
    refine wp_parts (by kernel_rfl) ?_
    refine ev_codeS ET_ok 60 [0, 2, 3] .normal (by kernel_rfl) (root_3 p (allE_cons rfl (allE_cons rfl allE_nil))) hP2 hB2 fun a3 Hr3 w3 hP3 hB3 => ?_
    show (sR (sR (scB (dropSeq 1 (Try.f26.body.getD .skip))))).wp _ _ _ _
    refine wp_lbl (l := 0) (r := (lbR (scB (dropSeq 1 (Try.f26.body.getD .skip))) 0)) (by kernel_rfl) ?_
    have hP4 := patSt_cells (l := 1) (cs' := wC 0#256) rfl rfl (by kernel_rfl) hP3
    have hB4 := bun_cells (l := 1) (cs' := wC 0#256) rfl hB3
    have hP5 := patSt_cells (l := 2) (cs' := [.bv .u64 0#64, .bv .u64 8#64, .int .u64 true 0, .int .u64 true 0]) rfl rfl (by kernel_rfl) hP4
    have hB5 := bun_cells (l := 2) (cs' := [.bv .u64 0#64, .bv .u64 8#64, .int .u64 true 0, .int .u64 true 0]) rfl hB4
    exact h0 _ _ _ hP5 hB5
end Go.Proofs.Ytjlijocnmicdpaa
