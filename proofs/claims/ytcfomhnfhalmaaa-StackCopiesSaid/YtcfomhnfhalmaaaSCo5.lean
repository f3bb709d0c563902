/- Parts of a proof, merged: StackF StackG StackI StackJ0 StackJ1 StackJ StackL EyY EyIt StackQ StackT StackW StackH StackMd StackP0 StackV StackX StackX2. No condition. -/
import Derived.Test.YtcfomhnfhalmaaaSCo4
import Derived.StillTail
import Derived.LoopNIn
import Derived.OwnWalkIn
import Derived.TacticsInMore
import Derived.LoopIn
section
set_option linter.unusedVariables false
set_option linter.unusedSimpArgs false
set_option maxRecDepth 100000
namespace Go.Proofs.Ytcfomhnfhalmaaa
open Go.RowKit

theorem ev_selP {E : Env} {nf : Nat} {t : Task} {st : ASt} {sel : List Nat} {e : AExit} {l : List (Nat × AV)} {n : Nat} {H : Mem} {cs : List (Bool × Bool)} (h : evT E nf t st (selK sel e l n H) = allE cs (selR l n H = selR l n H)) (hl : AllE cs) : Is (evT E nf t st (selK sel e l n H)) := ev_eq cs (selR l n H) h hl
theorem ev_selQ {E : Env} {nf : Nat} {t : Task} {st : ASt} {sel : List Nat} {e : AExit} {l : List (Nat × AV)} {n : Nat} {H : Mem} (h : evT E nf t st (selK sel e l n H) = (selR l n H = selR l n H)) : Is (evT E nf t st (selK sel e l n H)) := ev_eq [] (selR l n H) h trivial
theorem jo_a (R : Rws) (L : List V5) (at0 : Int) (t0 t1 t2 e : TypeId) : ∀ r, Is (evT (EG R false [] []) 60 (.code (sL (Try.f73.body.getD .skip))) ⟨pat [(0, .ptr 0 0), (1, .ptr 1 0)] r 0 Try.f73.ntmps, ⟨[.cells [.int .i64 false (at0)] t0, .cells [.ptr 2 0] t1, .cells [.gsl .any 3 0 L.length, .bool true true] t2, .row L.length 5 (F5 L) e none], [], (newW 4)⟩⟩ (selK [0, 1, 2, 3] .normal [(0, .ptr 0 0), (1, .ptr 1 0), (2, .int .u64 true 0)] Try.f73.ntmps [AIt.cells [.int .i64 false at0] t0, AIt.cells [.ptr 2 0] t1, AIt.cells [.gsl .any 3 0 (List.length L), .bool true true] t2, AIt.row (List.length L) 5 (F5 L) e none])) := fun r => ev_selQ (by kernel_rfl)
theorem jo_b (R : Rws) (L : List V5) (at0 : Int) (t0 t1 t2 e : TypeId) : ∀ r, Is (evT (EG R false [] []) 60 (.code (sL (sL (sR (Try.f73.body.getD .skip))))) ⟨pat [(0, .ptr 0 0), (1, .ptr 1 0), (2, .int .u64 true 0)] r 0 Try.f73.ntmps, ⟨[.cells [.int .i64 false (at0)] t0, .cells [.ptr 2 0] t1, .cells [.gsl .any 3 0 L.length, .bool true true] t2, .row L.length 5 (F5 L) e none], [], (newW 4)⟩⟩ (selK [0, 1, 2, 3] .normal [(0, .ptr 0 0), (1, .ptr 1 0), (2, .int .u64 true 0), (3, .int .i64 false at0)] Try.f73.ntmps [AIt.cells [.int .i64 false at0] t0, AIt.cells [.ptr 2 0] t1, AIt.cells [.gsl .any 3 0 (List.length L), .bool true true] t2, AIt.row (List.length L) 5 (F5 L) e none])) := fun r => ev_selQ (by kernel_rfl)
theorem jo_l (R : Rws) (L : List V5) (at0 : Int) (t0 t1 t2 e : TypeId) (a : BitVec 64) (k : Int) (h : AllE [(decide (k < (↑(List.length L) : Int)), true), (decide (0 ≤ k ∧ k < (↑(List.length L) : Int)), true), (decide (0 ≤ (↑0 : Int) + k ∧ (↑0 : Int) + k < (↑(List.length L) : Int)), true)]) : ∀ r, Is (evT (EG R false [] []) 60 (.code (lpB (bkB (sR (sL (sR (Try.f73.body.getD .skip))))))) ⟨pat [(0, .ptr 0 0), (1, .ptr 1 0), (2, .bv .u64 (a)), (3, .int .i64 false (k))] r 0 Try.f73.ntmps, ⟨[.cells [.int .i64 false (at0)] t0, .cells [.ptr 2 0] t1, .cells [.gsl .any 3 0 L.length, .bool true true] t2, .row L.length 5 (F5 L) e none], [true], (newW 4)⟩⟩ (selK [0, 1, 2, 3] .normal [(0, .ptr 0 0), (1, .ptr 1 0), (2, .bv .u64 (BitVec.ofInt 64 0 ||| a ||| V5.l (List.getD L (Int.toNat ((↑0 : Int) + k)) z5))), (3, .int .i64 false (IntKind.wrap .i64 (k + 1)))] Try.f73.ntmps [AIt.cells [.int .i64 false at0] t0, AIt.cells [.ptr 2 0] t1, AIt.cells [.gsl .any 3 0 (List.length L), .bool true true] t2, AIt.row (List.length L) 5 (F5 L) e none])) := fun r => ev_selP (by kernel_rfl) h
theorem jo_x (R : Rws) (L : List V5) (at0 : Int) (t0 t1 t2 e : TypeId) (a : BitVec 64) (k : Int) (h : AllE [(decide (k < (↑(List.length L) : Int)), false)]) : ∀ r, Is (evT (EG R false [] []) 60 (.code (lpB (bkB (sR (sL (sR (Try.f73.body.getD .skip))))))) ⟨pat [(0, .ptr 0 0), (1, .ptr 1 0), (2, .bv .u64 (a)), (3, .int .i64 false (k))] r 0 Try.f73.ntmps, ⟨[.cells [.int .i64 false (at0)] t0, .cells [.ptr 2 0] t1, .cells [.gsl .any 3 0 L.length, .bool true true] t2, .row L.length 5 (F5 L) e none], [false], (newW 4)⟩⟩ (selK [0, 1, 2, 3] (.exit 0) [(2, .bv .u64 a)] Try.f73.ntmps [AIt.cells [.int .i64 false at0] t0, AIt.cells [.ptr 2 0] t1, AIt.cells [.gsl .any 3 0 (List.length L), .bool true true] t2, AIt.row (List.length L) 5 (F5 L) e none])) := fun r => ev_selP (by kernel_rfl) h
theorem jo_z (R : Rws) (L : List V5) (at0 : Int) (t0 t1 t2 e : TypeId) (a : BitVec 64) : ∀ r, Is (evT (EG R false [] []) 60 (.code (sR (sR (Try.f73.body.getD .skip)))) ⟨pat [(2, .bv .u64 a)] r 0 Try.f73.ntmps, ⟨[.cells [.int .i64 false (at0)] t0, .cells [.ptr 2 0] t1, .cells [.gsl .any 3 0 L.length, .bool true true] t2, .row L.length 5 (F5 L) e none], [], (newW 4)⟩⟩ (selK [0, 1, 2, 3] .ret [(2, .bv .u64 a)] Try.f73.ntmps [AIt.cells [.int .i64 false at0] t0, AIt.cells [.ptr 2 0] t1, AIt.cells [.gsl .any 3 0 (List.length L), .bool true true] t2, AIt.row (List.length L) 5 (F5 L) e none])) := fun r => ev_selQ (by kernel_rfl)
theorem ra_a (R : Rws) (L : List V5) (at0 : Int) (a : BitVec 64) (t0 t1 t2 t3 e : TypeId) : ∀ r, Is (evT (EG R false [] []) 60 (.code (sL (Try.f77.body.getD .skip))) ⟨pat [(0, .ptr 0 0), (1, .ptr 1 0), (2, .ptr 2 0)] r 0 Try.f77.ntmps, ⟨[.cells [.ptr 3 0] t0, .cells [.int .i64 false (at0)] t1, .cells [.bv .u64 a] t2, .cells [.gsl .any 4 0 L.length, .bool true true] t3, .row L.length 5 (F5 L) e none], [], allW⟩⟩ (selK [0, 1, 2, 3, 4] .normal [(0, .ptr 0 0), (1, .ptr 1 0), (2, .ptr 2 0)] Try.f77.ntmps [AIt.cells [.ptr 3 0] t0, AIt.cells [.int .i64 false at0] t1, AIt.cells [.bv .u64 a] t2, AIt.cells [.gsl .any 4 0 (List.length L), .bool true true] t3, AIt.row (List.length L) 5 (F5 L) e none])) := fun r => ev_selQ (by kernel_rfl)
theorem ra_b (R : Rws) (L : List V5) (at0 : Int) (a : BitVec 64) (t0 t1 t2 t3 e : TypeId) (h : AllE [(decide (List.length L ≤ 1000000), true), (decide (0 + List.length L ≤ List.length L), true)]) : ∀ r, Is (evT (EG R false [] []) 60 (.code (sL (sR (Try.f77.body.getD .skip)))) ⟨pat [(0, .ptr 0 0), (1, .ptr 1 0), (2, .ptr 2 0)] r 0 Try.f77.ntmps, ⟨[.cells [.ptr 3 0] t0, .cells [.int .i64 false (at0)] t1, .cells [.bv .u64 a] t2, .cells [.gsl .any 4 0 L.length, .bool true true] t3, .row L.length 5 (F5 L) e none], [], allW⟩⟩ (selK [0, 1, 2, 3, 4, 6] .normal [(0, .ptr 0 0), (1, .ptr 1 0), (2, .ptr 2 0), (4, .gsl .top 5 0 (List.length L))] Try.f77.ntmps [AIt.cells [.ptr 3 0] t0, AIt.cells [.int .i64 false at0] t1, AIt.cells [.bv .u64 a] t2, AIt.cells [.gsl .any 4 0 (List.length L), .bool true true] t3, AIt.row (List.length L) 5 (F5 L) e none, AIt.row (List.length L) 5 (fun i => F5 L (0 + i)) cvE none])) := fun r => ev_selP (by kernel_rfl) h
theorem ra_c (R : Rws) (L : List V5) (at0 : Int) (a : BitVec 64) (t0 t1 t2 t3 e : TypeId) (M : List V5) : ∀ r, Is (evT (EG R false [] []) 60 (.code (sL (sL (sR (sR (Try.f77.body.getD .skip)))))) ⟨pat [(0, .ptr 0 0), (1, .ptr 1 0), (2, .ptr 2 0), (4, .gsl .top 5 0 M.length)] r 0 Try.f77.ntmps, ⟨[.cells [.ptr 3 0] t0, .cells [.int .i64 false (at0)] t1, .cells [.bv .u64 a] t2, .cells [.gsl .any 4 0 L.length, .bool true true] t3, .row L.length 5 (F5 L) e none, .row M.length 5 (F5 M) cvE none], [], allW⟩⟩ (selK [0, 1, 2, 3, 4, 5] .normal [(0, .ptr 0 0), (1, .ptr 1 0), (2, .ptr 2 0), (4, .gsl .top 5 0 (List.length M)), (5, .int .i64 false at0)] Try.f77.ntmps [AIt.cells [.ptr 3 0] t0, AIt.cells [.int .i64 false at0] t1, AIt.cells [.bv .u64 a] t2, AIt.cells [.gsl .any 4 0 (List.length L), .bool true true] t3, AIt.row (List.length L) 5 (F5 L) e none, AIt.row (List.length M) 5 (F5 M) cvE none])) := fun r => ev_selQ (by kernel_rfl)
theorem ra_l (R : Rws) (L : List V5) (at0 : Int) (a : BitVec 64) (t0 t1 t2 t3 e : TypeId) (M : List V5) (k : Int) (h : AllE [(decide (k < (↑(List.length M) : Int)), true), (decide (0 ≤ k ∧ k < (↑(List.length M) : Int)), true), (decide (0 ≤ (↑0 : Int) + k ∧ (↑0 : Int) + k < (↑(List.length M) : Int)), true), (decide (0 ≤ k ∧ k < (↑(List.length M) : Int)), true), (decide (0 ≤ (↑0 : Int) + k ∧ (↑0 : Int) + k < (↑(List.length M) : Int)), true)]) : ∀ r, Is (evT (EG R false [] []) 60 (.code (lpB (bkB (sR (sL (sR (sR (Try.f77.body.getD .skip)))))))) ⟨pat [(0, .ptr 0 0), (1, .ptr 1 0), (2, .ptr 2 0), (4, .gsl .top 5 0 M.length), (5, .int .i64 false (k))] r 0 Try.f77.ntmps, ⟨[.cells [.ptr 3 0] t0, .cells [.int .i64 false (at0)] t1, .cells [.bv .u64 a] t2, .cells [.gsl .any 4 0 L.length, .bool true true] t3, .row L.length 5 (F5 L) e none, .row M.length 5 (F5 M) cvE none], [true], allW⟩⟩ (selK [0, 1, 2, 3, 4, 5] .normal [(0, .ptr 0 0), (1, .ptr 1 0), (2, .ptr 2 0), (4, .gsl .top 5 0 (List.length M)), (5, .int .i64 false (IntKind.wrap .i64 (k + 1)))] Try.f77.ntmps [AIt.cells [.ptr 3 0] t0, AIt.cells [.int .i64 false at0] t1, AIt.cells [.bv .u64 a] t2, AIt.cells [.gsl .any 4 0 (List.length L), .bool true true] t3, AIt.row (List.length L) 5 (F5 L) e none, .row M.length 5 (putR 5 (F5 M) (Int.toNat ((0 : Int) + k)) 4 [.bv .u64 (BitVec.ofInt 64 0 ||| V5.l (List.getD M (Int.toNat ((0 : Int) + k)) z5) ||| a)]) cvE none])) := fun r => ev_selP (by kernel_rfl) h
theorem ra_x (R : Rws) (L : List V5) (at0 : Int) (a : BitVec 64) (t0 t1 t2 t3 e : TypeId) (M : List V5) (k : Int) (h : AllE [(decide (k < (↑(List.length M) : Int)), false)]) : ∀ r, Is (evT (EG R false [] []) 60 (.code (lpB (bkB (sR (sL (sR (sR (Try.f77.body.getD .skip)))))))) ⟨pat [(0, .ptr 0 0), (1, .ptr 1 0), (2, .ptr 2 0), (4, .gsl .top 5 0 M.length), (5, .int .i64 false (k))] r 0 Try.f77.ntmps, ⟨[.cells [.ptr 3 0] t0, .cells [.int .i64 false (at0)] t1, .cells [.bv .u64 a] t2, .cells [.gsl .any 4 0 L.length, .bool true true] t3, .row L.length 5 (F5 L) e none, .row M.length 5 (F5 M) cvE none], [false], allW⟩⟩ (selK [0, 1, 2, 3, 4, 5] (.exit 0) [(0, .ptr 0 0), (1, .ptr 1 0), (2, .ptr 2 0), (4, .gsl .top 5 0 (List.length M))] Try.f77.ntmps [AIt.cells [.ptr 3 0] t0, AIt.cells [.int .i64 false at0] t1, AIt.cells [.bv .u64 a] t2, AIt.cells [.gsl .any 4 0 (List.length L), .bool true true] t3, AIt.row (List.length L) 5 (F5 L) e none, AIt.row (List.length M) 5 (F5 M) cvE none])) := fun r => ev_selP (by kernel_rfl) h
theorem ra_z (R : Rws) (L : List V5) (at0 : Int) (a : BitVec 64) (t0 t1 t2 t3 e : TypeId) (M : List V5) : ∀ r, Is (evT (EG R false [] []) 60 (.code (sR (sR (sR (Try.f77.body.getD .skip))))) ⟨pat [(0, .ptr 0 0), (1, .ptr 1 0), (2, .ptr 2 0), (4, .gsl .top 5 0 M.length)] r 0 Try.f77.ntmps, ⟨[.cells [.ptr 3 0] t0, .cells [.int .i64 false (at0)] t1, .cells [.bv .u64 a] t2, .cells [.gsl .any 4 0 L.length, .bool true true] t3, .row L.length 5 (F5 L) e none, .row M.length 5 (F5 M) cvE none], [], allW⟩⟩ (selK [0, 1, 2, 3, 4, 5] .ret [(3, .bool true true)] Try.f77.ntmps [AIt.cells [.ptr 3 0] t0, AIt.cells [.int .i64 false at0] t1, AIt.cells [.bv .u64 a] t2, AIt.cells [.gsl .top 5 0 (List.length M), .bool true true] t3, AIt.row (List.length L) 5 (F5 L) e none, AIt.row (List.length M) 5 (F5 M) cvE none])) := fun r => ev_selQ (by kernel_rfl)
theorem rv_a (R : Rws) (L : List V5) (e : TypeId) : ∀ r, Is (evT (EG R false [] []) 60 (.code (sL (Try.f67.body.getD .skip))) ⟨pat [(0, .gsl .top 0 0 L.length)] r 0 Try.f67.ntmps, ⟨[.row L.length 5 (F5 L) e none], [], allW⟩⟩ (selK [0] .normal [(0, .gsl .top 0 0 (List.length L)), (2, .int .i64 true 0), (3, .int .i64 false (IntKind.wrap .i64 ((↑(List.length L) : Int) - 1)))] Try.f67.ntmps [AIt.row (List.length L) 5 (F5 L) e none])) := fun r => ev_selQ (by kernel_rfl)
theorem rv_l (R : Rws) (L : List V5) (e : TypeId) (k j : Int) (h : AllE [(decide (k < j), true), (decide (0 ≤ j ∧ j < (↑(List.length L) : Int)), true), (decide (0 ≤ (↑0 : Int) + j ∧ (↑0 : Int) + j < (↑(List.length L) : Int)), true), (decide (0 ≤ k ∧ k < (↑(List.length L) : Int)), true), (decide (0 ≤ (↑0 : Int) + k ∧ (↑0 : Int) + k < (↑(List.length L) : Int)), true), (decide (0 ≤ k ∧ k < (↑(List.length L) : Int)), true), (decide (0 ≤ (↑0 : Int) + k ∧ (↑0 : Int) + k < (↑(List.length L) : Int)), true), (decide (0 ≤ j ∧ j < (↑(List.length L) : Int)), true), (decide (0 ≤ (↑0 : Int) + j ∧ (↑0 : Int) + j < (↑(List.length L) : Int)), true)]) : ∀ r, Is (evT (EG R false [] []) 60 (.code (lpB (bkB (sR (Try.f67.body.getD .skip))))) ⟨pat [(0, .gsl .top 0 0 L.length), (2, .int .i64 false (k)), (3, .int .i64 false (j))] r 0 Try.f67.ntmps, ⟨[.row L.length 5 (F5 L) e none], [true], allW⟩⟩ (selK [0] .normal [(0, .gsl .top 0 0 (List.length L)), (2, .int .i64 false (IntKind.wrap .i64 (k + 1))), (3, .int .i64 false (IntKind.wrap .i64 (j - 1)))] Try.f67.ntmps [.row L.length 5 (putR 5 (putR 5 (F5 L) (Int.toNat ((0 : Int) + k)) 0 (List.take 5 (F5 L (Int.toNat ((0 : Int) + j))))) (Int.toNat ((0 : Int) + j)) 0 (List.take 5 (F5 L (Int.toNat ((0 : Int) + k))))) e none])) := fun r => ev_selP (by kernel_rfl) h
theorem rv_x (R : Rws) (L : List V5) (e : TypeId) (k j : Int) (h : AllE [(decide (k < j), false)]) : ∀ r, Is (evT (EG R false [] []) 60 (.code (lpB (bkB (sR (Try.f67.body.getD .skip))))) ⟨pat [(0, .gsl .top 0 0 L.length), (2, .int .i64 false (k)), (3, .int .i64 false (j))] r 0 Try.f67.ntmps, ⟨[.row L.length 5 (F5 L) e none], [false], allW⟩⟩ (selK [0] (.exit 0) [(0, .gsl .top 0 0 (List.length L))] Try.f67.ntmps [AIt.row (List.length L) 5 (F5 L) e none])) := fun r => ev_selP (by kernel_rfl) h
noncomputable def joinS (L : List V5) : SmF
  | [.ptr 0 0, .ptr 1 0], [.cells [.int .i64 l at0] t0, .cells [.ptr 2 0] t1, .cells [.gsl k 3 0 n, .bool l2 true] t2, .row N 5 F e none] => some (.bv .u64 (joinTo L at0.toNat (n - at0.toNat)), [.cells [.int .i64 false at0] t0, .cells [.ptr 2 0] t1, .cells [.gsl .any 3 0 n, .bool true true] t2, .row n 5 (F5 L) e none], [decide (0 ≤ at0), rowIs F N L, decide (n = N), decide (n ≤ 1000000)])
  | _, _ => none
theorem joinS_ok {R : Rws} (hR : RwOK R) (L : List V5) : GoodR Try.prog R 73 (joinS L) := by
  refine ⟨enters_of Try.func73 (by kernel_rfl) rfl, fun args H v H' cs h hcs Hr w Args hA hB hn hO => ?_⟩
  unfold joinS at h
  split at h
  case h_2 => cases h
  rename_i l at0 t0 t1 k n l2 t2 N F e
  cases h
  simp only [List.mem_cons, List.not_mem_nil, or_false, forall_eq_or_imp, forall_eq] at hcs
  obtain ⟨c1, c2, c3, c4⟩ := hcs
  have c1 := of_decide_eq_true c1
  have c3 := of_decide_eq_true c3
  have c4 := of_decide_eq_true c4
  obtain ⟨d1, d2⟩ := rowIs_spec c2
  subst c3
  subst d1
  have hE := EG_ok hR false good_nil goodM_nil
  refine ev_enterH (E := EG R false [] []) (fn := Try.f73) (c := (Try.f73.body.getD .skip)) Try.func73 (by kernel_rfl) (args := [.ptr 0 0, .ptr 1 0]) (show 2 ≤ Try.f73.ntmps by decide) hA hB hn hO (ds := []) (wr := allW) fun a0 hP0' hB0' => ?_
  have hW : wkM [.cells [.int .i64 l at0] t0, .cells [.ptr 2 0] t1, .cells [.gsl k 3 0 L.length, .bool l2 true] t2, .row L.length 5 F e none] [.cells [.int .i64 false (at0)] t0, .cells [.ptr 2 0] t1, .cells [.gsl .any 3 0 L.length, .bool true true] t2, .row L.length 5 (F5 L) e none] := ⟨⟨rfl, wkA_int, trivial⟩, wkI.refl _, ⟨rfl, wkA_any, wkA_bool, trivial⟩, ⟨Nat.le_refl _, rfl, rfl, rfl, d2⟩, trivial⟩
  have hP0 := hP0'.wk (live' := [(0, .ptr 0 0), (1, .ptr 1 0)]) (ds' := []) (wr' := allW) (wkV.refl _) hW
  have hB0 := hB0'.wk hW
  refine wp_parts (by kernel_rfl) (ev_codeWS hE 60 [0, 1, 2, 3] .normal (by decide) (by rfl) (jo_a R L at0 t0 t1 t2 e) (wkV.refl _) (wkM.refl _) hP0 hB0 fun a1 Hr1 w1 hP1 hB1 hT1 => ?_)
  refine wp_parts (by kernel_rfl) (wp_parts (by kernel_rfl) (ev_codeWS hE 60 [0, 1, 2, 3] .normal (by decide) (by rfl) (jo_b R L at0 t0 t1 t2 e) (live'' := [(0, .ptr 0 0), (1, .ptr 1 0), (2, .bv .u64 (joinTo L at0.toNat 0)), (3, .int .i64 false (at0 + ((0 : Nat) : Int)))]) ⟨rfl, wkA.refl _, rfl, wkA.refl _, rfl, wkA_bv rfl, rfl, wkA_intE (by simp), trivial⟩ (wkM.refl _) hP1 hB1 fun a2 Hr2 w2 hP2 hB2 hT2 => ?_))
  refine wp_bk (by kernel_rfl) ?_
  refine ev_loopI (by kernel_rfl) (fun Hr' w' => Stp (newW 4) Hr w Hr' w') (L.length - at0.toNat) (.exit 0) rfl (fun k : Nat => [(0, .ptr 0 0), (1, .ptr 1 0), (2, .bv .u64 (joinTo L at0.toNat k)), (3, .int .i64 false (at0 + (k : Int)))]) (fun _ => [.cells [.int .i64 false (at0)] t0, .cells [.ptr 2 0] t1, .cells [.gsl .any 3 0 L.length, .bool true true] t2, .row L.length 5 (F5 L) e none]) (live' := [(2, .bv .u64 (joinTo L at0.toNat (L.length - at0.toNat)))]) (H' := [.cells [.int .i64 false (at0)] t0, .cells [.ptr 2 0] t1, .cells [.gsl .any 3 0 L.length, .bool true true] t2, .row L.length 5 (F5 L) e none]) (fun k hk a2 Hr2 w2 Q' hP2 hB2 hI hnx => ?_) (fun a2 Hr2 w2 Q' hP2 hB2 hI hnx => ?_) hP2 hB2 (hT1.trans hT2) fun a3 Hr3 w3 hP3 hB3 hI => ?_
  · have e1 : ((0 : Int) + (at0 + (k : Int))).toNat = at0.toNat + k := by omega
    refine ev_codeWS hE 60 [0, 1, 2, 3] .normal (by decide) (by rfl) (jo_l R L at0 t0 t1 t2 e (joinTo L at0.toNat k) (at0 + (k : Int)) (allE_cons (by first | exact decide_eq_true (by omega) | exact decide_eq_true (by simp only [List.length_map, List.length_range]; omega)) (allE_cons (by first | exact decide_eq_true (by omega) | exact decide_eq_true (by simp only [List.length_map, List.length_range]; omega)) (allE_cons (by first | exact decide_eq_true (by omega) | exact decide_eq_true (by simp only [List.length_map, List.length_range]; omega)) allE_nil)))) (live'' := [(0, .ptr 0 0), (1, .ptr 1 0), (2, .bv .u64 (joinTo L at0.toNat (k + 1))), (3, .int .i64 false (at0 + ((k + 1 : Nat) : Int)))]) ⟨rfl, wkA.refl _, rfl, wkA.refl _, rfl, wkA_eq (by rw [e1]; rfl), rfl, wkA_intE (by rw [IntKind.wrap_i64]; omega), trivial⟩ (wkM.refl _) hP2 hB2 fun a3 Hr3 w3 hP3 hB3 hT3 => ?_
    exact hnx _ _ _ hP3 hB3 (hI.trans hT3)
  · refine ev_codeWS hE 60 [0, 1, 2, 3] (.exit 0) (by decide) (by rfl) (jo_x R L at0 t0 t1 t2 e (joinTo L at0.toNat (L.length - at0.toNat)) (at0 + ((L.length - at0.toNat : Nat) : Int)) (allE_cons (by first | exact decide_eq_false (by omega) | exact decide_eq_false (by simp only [List.length_map, List.length_range]; omega)) allE_nil)) (wkV.refl _) (wkM.refl _) hP2 hB2 fun a3 Hr3 w3 hP3 hB3 hT3 => ?_
    exact hnx _ _ _ hP3 hB3 (hI.trans hT3)
  refine ev_codeWS hE 60 [0, 1, 2, 3] .ret (by decide) (by rfl) (jo_z R L at0 t0 t1 t2 e _) (wkV.refl _) (wkM.refl _) hP3 hB3 fun a4 Hr4 w4 hP4 hB4 hT4 => ?_
  obtain ⟨rr, vv, _, _, hBl, hAp⟩ := id hP4
  exact ev_endR hE (vs := [_]) (fun rs => by kernel_rfl) hP4 hB4 (fun V hv => ⟨V, Hr4, rfl, hv, hBl, hAp, hB4.own, hI.trans hT4⟩) (.inl rfl)
noncomputable def raiseS (L : List V5) : SmF
  | [.ptr 0 0, .ptr 1 0, .ptr 2 0], [.cells [.ptr 3 0] t0, .cells [.int .i64 l at0] t1, .cells [.bv .u64 a] t2, .cells [.gsl k 4 0 n, .bool l2 true] t3, .row N 5 F e none] => some (.bool true true, [.cells [.ptr 3 0] t0, .cells [.int .i64 false at0] t1, .cells [.bv .u64 a] t2, .cells [.gsl .any 5 0 n, .bool true true] t3, .row n 5 (F5 L) e none, .row n 5 (F5 (raiseTo L at0.toNat n a)) cvE none], [decide (0 ≤ at0), rowIs F N L, decide (n = N), decide (n ≤ 1000000)])
  | _, _ => none
theorem raiseS_ok {R : Rws} (hR : RwOK R) (L : List V5) : GoodS Try.prog R 77 (raiseS L) := by
  refine ⟨enters_of Try.func77 (by kernel_rfl) rfl, fun args H v H' cs h hcs Hr w Args hA hB hn hO => ?_⟩
  unfold raiseS at h
  split at h
  case h_2 => cases h
  rename_i t0 l at0 t1 a t2 k n l2 t3 N F e
  cases h
  simp only [List.mem_cons, List.not_mem_nil, or_false, forall_eq_or_imp, forall_eq] at hcs
  obtain ⟨c1, c2, c3, c4⟩ := hcs
  have c1 := of_decide_eq_true c1
  have c3 := of_decide_eq_true c3
  have c4 := of_decide_eq_true c4
  obtain ⟨d1, d2⟩ := rowIs_spec c2
  subst c3
  subst d1
  have hE := EG_ok hR false good_nil goodM_nil
  refine ev_enterH (E := EG R false [] []) (fn := Try.f77) (c := (Try.f77.body.getD .skip)) Try.func77 (by kernel_rfl) (args := [.ptr 0 0, .ptr 1 0, .ptr 2 0]) (show 3 ≤ Try.f77.ntmps by decide) hA hB hn hO (ds := []) (wr := allW) fun a0 hP0' hB0' => ?_
  have hW : wkM [.cells [.ptr 3 0] t0, .cells [.int .i64 l at0] t1, .cells [.bv .u64 a] t2, .cells [.gsl k 4 0 L.length, .bool l2 true] t3, .row L.length 5 F e none] [.cells [.ptr 3 0] t0, .cells [.int .i64 false (at0)] t1, .cells [.bv .u64 a] t2, .cells [.gsl .any 4 0 L.length, .bool true true] t3, .row L.length 5 (F5 L) e none] := ⟨wkI.refl _, ⟨rfl, wkA_int, trivial⟩, wkI.refl _, ⟨rfl, wkA_any, wkA_bool, trivial⟩, ⟨Nat.le_refl _, rfl, rfl, rfl, d2⟩, trivial⟩
  have hP0 := hP0'.wk (live' := [(0, .ptr 0 0), (1, .ptr 1 0), (2, .ptr 2 0)]) (ds' := []) (wr' := allW) (wkV.refl _) hW
  have hB0 := hB0'.wk hW
  have hz := raise_zero L at0.toNat a
  have hl : ∀ k, (raiseTo L at0.toNat k a).length = L.length := fun k => raise_len L _ _ _
  refine wp_parts (by kernel_rfl) (ev_codeWS hE 60 [0, 1, 2, 3, 4] .normal (by decide) (by rfl) (ra_a R L at0 a t0 t1 t2 t3 e) (wkV.refl _) (wkM.refl _) hP0 hB0 fun a1 Hr1 w1 hP1 hB1 hT1 => ?_)
  refine wp_parts (by kernel_rfl) (ev_codeWS hE 60 [0, 1, 2, 3, 4, 6] .normal (by decide) (by rfl) (ra_b R L at0 a t0 t1 t2 t3 e (allE_cons (by first | exact decide_eq_true (by omega) | exact decide_eq_true (by simp only [List.length_map, List.length_range]; omega)) (allE_cons (by first | exact decide_eq_true (by omega) | exact decide_eq_true (by simp only [List.length_map, List.length_range]; omega)) allE_nil))) (wkV.refl _) (H'' := [.cells [.ptr 3 0] t0, .cells [.int .i64 false (at0)] t1, .cells [.bv .u64 a] t2, .cells [.gsl .any 4 0 L.length, .bool true true] t3, .row L.length 5 (F5 L) e none, .row L.length 5 (F5 L) cvE none]) ⟨wkI.refl _, wkI.refl _, wkI.refl _, wkI.refl _, wkI.refl _, wkI_row (Nat.le_refl _) (fun i _ => by rw [Nat.zero_add]), trivial⟩ hP1 hB1 fun a2 Hr2 w2 hP2 hB2 hT2 => ?_)
  refine wp_parts (by kernel_rfl) (wp_parts (by kernel_rfl) (ev_codeWS hE 60 [0, 1, 2, 3, 4, 5] .normal (by decide) (by rfl) (ra_c R L at0 a t0 t1 t2 t3 e L) (live'' := [(0, .ptr 0 0), (1, .ptr 1 0), (2, .ptr 2 0), (4, .gsl .top 5 0 L.length), (5, .int .i64 false (at0 + ((0 : Nat) : Int)))]) ⟨rfl, wkA.refl _, rfl, wkA.refl _, rfl, wkA.refl _, rfl, wkA.refl _, rfl, wkA_intE (by simp), trivial⟩ (H'' := [.cells [.ptr 3 0] t0, .cells [.int .i64 false (at0)] t1, .cells [.bv .u64 a] t2, .cells [.gsl .any 4 0 L.length, .bool true true] t3, .row L.length 5 (F5 L) e none, .row L.length 5 (F5 (raiseTo L at0.toNat (at0.toNat + 0) a)) cvE none]) ⟨wkI.refl _, wkI.refl _, wkI.refl _, wkI.refl _, wkI.refl _, wkI_row (Nat.le_refl _) (fun i _ => by rw [Nat.add_zero, hz]), trivial⟩ hP2 hB2 fun a3 Hr3 w3 hP3 hB3 hT3 => ?_))
  refine wp_bk (by kernel_rfl) ?_
  refine ev_loopI (by kernel_rfl) (fun Hr' w' => Stp allW Hr w Hr' w') (L.length - at0.toNat) (.exit 0) rfl (fun k : Nat => [(0, .ptr 0 0), (1, .ptr 1 0), (2, .ptr 2 0), (4, .gsl .top 5 0 L.length), (5, .int .i64 false (at0 + (k : Int)))]) (fun k : Nat => [.cells [.ptr 3 0] t0, .cells [.int .i64 false (at0)] t1, .cells [.bv .u64 a] t2, .cells [.gsl .any 4 0 L.length, .bool true true] t3, .row L.length 5 (F5 L) e none, .row L.length 5 (F5 (raiseTo L at0.toNat (at0.toNat + k) a)) cvE none]) (live' := [(0, .ptr 0 0), (1, .ptr 1 0), (2, .ptr 2 0), (4, .gsl .top 5 0 L.length)]) (H' := [.cells [.ptr 3 0] t0, .cells [.int .i64 false (at0)] t1, .cells [.bv .u64 a] t2, .cells [.gsl .any 4 0 L.length, .bool true true] t3, .row L.length 5 (F5 L) e none, .row L.length 5 (F5 (raiseTo L at0.toNat (at0.toNat + (L.length - at0.toNat)) a)) cvE none]) (fun k hk a2 Hr2 w2 Q' hP2 hB2 hI hnx => ?_) (fun a2 Hr2 w2 Q' hP2 hB2 hI hnx => ?_) hP3 hB3 ((hT1.trans hT2).trans hT3) fun a3 Hr3 w3 hP3 hB3 hI => ?_
  · have e1 : ((0 : Int) + (at0 + (k : Int))).toNat = at0.toNat + k := by omega
    have e2 := hl (at0.toNat + k)
    have hP2 := hP2.wk (live' := [(0, .ptr 0 0), (1, .ptr 1 0), (2, .ptr 2 0), (4, .gsl .top 5 0 (raiseTo L at0.toNat (at0.toNat + k) a).length), (5, .int .i64 false ((at0 + (k : Int))))]) (ds' := []) (wr' := allW) ⟨rfl, wkA.refl _, rfl, wkA.refl _, rfl, wkA.refl _, rfl, wkA_eq (by rw [e2]), rfl, wkA.refl _, trivial⟩ (H' := [.cells [.ptr 3 0] t0, .cells [.int .i64 false (at0)] t1, .cells [.bv .u64 a] t2, .cells [.gsl .any 4 0 L.length, .bool true true] t3, .row L.length 5 (F5 L) e none, .row (raiseTo L at0.toNat (at0.toNat + k) a).length 5 (F5 (raiseTo L at0.toNat (at0.toNat + k) a)) cvE none]) ⟨wkI.refl _, wkI.refl _, wkI.refl _, wkI.refl _, wkI.refl _, wkI_row (Nat.le_of_eq e2) (fun i _ => rfl), trivial⟩
    have hB2 := hB2.wk (H' := [.cells [.ptr 3 0] t0, .cells [.int .i64 false (at0)] t1, .cells [.bv .u64 a] t2, .cells [.gsl .any 4 0 L.length, .bool true true] t3, .row L.length 5 (F5 L) e none, .row (raiseTo L at0.toNat (at0.toNat + k) a).length 5 (F5 (raiseTo L at0.toNat (at0.toNat + k) a)) cvE none]) ⟨wkI.refl _, wkI.refl _, wkI.refl _, wkI.refl _, wkI.refl _, wkI_row (Nat.le_of_eq e2) (fun i _ => rfl), trivial⟩
    refine ev_codeWS hE 60 [0, 1, 2, 3, 4, 5] .normal (by decide) (by rfl) (ra_l R L at0 a t0 t1 t2 t3 e _ (at0 + (k : Int)) (allE_cons (by first | exact decide_eq_true (by omega) | exact decide_eq_true (by simp only [List.length_map, List.length_range]; omega)) (allE_cons (by first | exact decide_eq_true (by omega) | exact decide_eq_true (by simp only [List.length_map, List.length_range]; omega)) (allE_cons (by first | exact decide_eq_true (by omega) | exact decide_eq_true (by simp only [List.length_map, List.length_range]; omega)) (allE_cons (by first | exact decide_eq_true (by omega) | exact decide_eq_true (by simp only [List.length_map, List.length_range]; omega)) (allE_cons (by first | exact decide_eq_true (by omega) | exact decide_eq_true (by simp only [List.length_map, List.length_range]; omega)) allE_nil)))))) (live'' := [(0, .ptr 0 0), (1, .ptr 1 0), (2, .ptr 2 0), (4, .gsl .top 5 0 L.length), (5, .int .i64 false (at0 + ((k + 1 : Nat) : Int)))]) ⟨rfl, wkA.refl _, rfl, wkA.refl _, rfl, wkA.refl _, rfl, wkA_eq (by rw [e2]), rfl, wkA_intE (by rw [IntKind.wrap_i64]; omega), trivial⟩ (H'' := [.cells [.ptr 3 0] t0, .cells [.int .i64 false (at0)] t1, .cells [.bv .u64 a] t2, .cells [.gsl .any 4 0 L.length, .bool true true] t3, .row L.length 5 (F5 L) e none, .row L.length 5 (F5 (raiseTo L at0.toNat (at0.toNat + (k + 1)) a)) cvE none]) ⟨wkI.refl _, wkI.refl _, wkI.refl _, wkI.refl _, wkI.refl _, wkI_row (Nat.le_of_eq e2.symm) (fun i hi => by rw [e1]; exact raise_next (by omega) i hi), trivial⟩ hP2 hB2 fun a3 Hr3 w3 hP3 hB3 hT3 => ?_
    exact hnx _ _ _ hP3 hB3 (hI.trans hT3)
  · have e2 := hl (at0.toNat + (L.length - at0.toNat))
    have hP2 := hP2.wk (live' := [(0, .ptr 0 0), (1, .ptr 1 0), (2, .ptr 2 0), (4, .gsl .top 5 0 (raiseTo L at0.toNat (at0.toNat + (L.length - at0.toNat)) a).length), (5, .int .i64 false ((at0 + ((L.length - at0.toNat : Nat) : Int))))]) (ds' := []) (wr' := allW) ⟨rfl, wkA.refl _, rfl, wkA.refl _, rfl, wkA.refl _, rfl, wkA_eq (by rw [e2]), rfl, wkA.refl _, trivial⟩ (H' := [.cells [.ptr 3 0] t0, .cells [.int .i64 false (at0)] t1, .cells [.bv .u64 a] t2, .cells [.gsl .any 4 0 L.length, .bool true true] t3, .row L.length 5 (F5 L) e none, .row (raiseTo L at0.toNat (at0.toNat + (L.length - at0.toNat)) a).length 5 (F5 (raiseTo L at0.toNat (at0.toNat + (L.length - at0.toNat)) a)) cvE none]) ⟨wkI.refl _, wkI.refl _, wkI.refl _, wkI.refl _, wkI.refl _, wkI_row (Nat.le_of_eq e2) (fun i _ => rfl), trivial⟩
    have hB2 := hB2.wk (H' := [.cells [.ptr 3 0] t0, .cells [.int .i64 false (at0)] t1, .cells [.bv .u64 a] t2, .cells [.gsl .any 4 0 L.length, .bool true true] t3, .row L.length 5 (F5 L) e none, .row (raiseTo L at0.toNat (at0.toNat + (L.length - at0.toNat)) a).length 5 (F5 (raiseTo L at0.toNat (at0.toNat + (L.length - at0.toNat)) a)) cvE none]) ⟨wkI.refl _, wkI.refl _, wkI.refl _, wkI.refl _, wkI.refl _, wkI_row (Nat.le_of_eq e2) (fun i _ => rfl), trivial⟩
    refine ev_codeWS hE 60 [0, 1, 2, 3, 4, 5] (.exit 0) (by decide) (by rfl) (ra_x R L at0 a t0 t1 t2 t3 e _ (at0 + ((L.length - at0.toNat : Nat) : Int)) (allE_cons (by first | exact decide_eq_false (by omega) | exact decide_eq_false (by simp only [List.length_map, List.length_range]; omega)) allE_nil)) (live'' := [(0, .ptr 0 0), (1, .ptr 1 0), (2, .ptr 2 0), (4, .gsl .top 5 0 L.length)]) ⟨rfl, wkA.refl _, rfl, wkA.refl _, rfl, wkA.refl _, rfl, wkA_eq (by rw [e2]), trivial⟩ (H'' := [.cells [.ptr 3 0] t0, .cells [.int .i64 false (at0)] t1, .cells [.bv .u64 a] t2, .cells [.gsl .any 4 0 L.length, .bool true true] t3, .row L.length 5 (F5 L) e none, .row L.length 5 (F5 (raiseTo L at0.toNat (at0.toNat + (L.length - at0.toNat)) a)) cvE none]) ⟨wkI.refl _, wkI.refl _, wkI.refl _, wkI.refl _, wkI.refl _, wkI_row (Nat.le_of_eq e2.symm) (fun i _ => rfl), trivial⟩ hP2 hB2 fun a3 Hr3 w3 hP3 hB3 hT3 => ?_
    exact hnx _ _ _ hP3 hB3 (hI.trans hT3)
  have e2 := hl (at0.toNat + (L.length - at0.toNat))
  have e3 : raiseTo L at0.toNat (at0.toNat + (L.length - at0.toNat)) a = raiseTo L at0.toNat L.length a := mapN_ext fun i hi => by
    by_cases h : at0.toNat ≤ i ∧ i < L.length
    · rw [if_pos h, if_pos (by omega)]
    · rw [if_neg h, if_neg (by omega)]
  have e4 := hl L.length
  have hP3 := hP3.wk (live' := [(0, .ptr 0 0), (1, .ptr 1 0), (2, .ptr 2 0), (4, .gsl .top 5 0 (raiseTo L at0.toNat L.length a).length)]) (ds' := []) (wr' := allW) ⟨rfl, wkA.refl _, rfl, wkA.refl _, rfl, wkA.refl _, rfl, wkA_eq (by rw [e4]), trivial⟩ (H' := [.cells [.ptr 3 0] t0, .cells [.int .i64 false (at0)] t1, .cells [.bv .u64 a] t2, .cells [.gsl .any 4 0 L.length, .bool true true] t3, .row L.length 5 (F5 L) e none, .row (raiseTo L at0.toNat L.length a).length 5 (F5 (raiseTo L at0.toNat L.length a)) cvE none]) ⟨wkI.refl _, wkI.refl _, wkI.refl _, wkI.refl _, wkI.refl _, wkI_row (Nat.le_of_eq e4) (fun i _ => by rw [e3]), trivial⟩
  have hB3 := hB3.wk (H' := [.cells [.ptr 3 0] t0, .cells [.int .i64 false (at0)] t1, .cells [.bv .u64 a] t2, .cells [.gsl .any 4 0 L.length, .bool true true] t3, .row L.length 5 (F5 L) e none, .row (raiseTo L at0.toNat L.length a).length 5 (F5 (raiseTo L at0.toNat L.length a)) cvE none]) ⟨wkI.refl _, wkI.refl _, wkI.refl _, wkI.refl _, wkI.refl _, wkI_row (Nat.le_of_eq e4) (fun i _ => by rw [e3]), trivial⟩
  refine ev_codeWS hE 60 [0, 1, 2, 3, 4, 5] .ret (by decide) (by rfl) (ra_z R L at0 a t0 t1 t2 t3 e (raiseTo L at0.toNat L.length a)) (wkV.refl _) (H'' := [.cells [.ptr 3 0] t0, .cells [.int .i64 false (at0)] t1, .cells [.bv .u64 a] t2, .cells [.gsl .any 5 0 L.length, .bool true true] t3, .row L.length 5 (F5 L) e none, .row L.length 5 (F5 (raiseTo L at0.toNat L.length a)) cvE none]) ⟨wkI.refl _, wkI.refl _, wkI.refl _, ⟨rfl, wkA.trans wkA_any (wkA_eq (by rw [e4])), wkA.refl _, trivial⟩, wkI.refl _, wkI_row (Nat.le_of_eq e4.symm) (fun i _ => rfl), trivial⟩ hP3 hB3 fun a4 Hr4 w4 hP4 hB4 hT4 => ?_
  obtain ⟨rr, vv, _, _, hBl, hAp⟩ := id hP4
  exact ev_endR hE (vs := [_]) (fun rs => by kernel_rfl) hP4 hB4 (fun V hv => ⟨V, Hr4, rfl, hv, hBl, hAp, hB4.own, hI.trans hT4⟩) (.inl rfl)
noncomputable def revS (L : List V5) : SmF
  | [.gsl .top 0 0 n], [.row N 5 F e none] => some (.tuple [], [.row n 5 (F5 (rev5 L)) e none], [rowIs F N L, decide (n = N), decide (n ≤ 1000000)])
  | _, _ => none
theorem revS_ok {R : Rws} (hR : RwOK R) (L : List V5) : GoodS Try.prog R 67 (revS L) := by
  refine ⟨enters_of Try.func67 (by kernel_rfl) rfl, fun args H v H' cs h hcs Hr w Args hA hB hn hO => ?_⟩
  unfold revS at h
  split at h
  case h_2 => cases h
  rename_i n N F e
  cases h
  simp only [List.mem_cons, List.not_mem_nil, or_false, forall_eq_or_imp, forall_eq] at hcs
  obtain ⟨c2, c3, c4⟩ := hcs
  have c3 := of_decide_eq_true c3
  have c4 := of_decide_eq_true c4
  obtain ⟨d1, d2⟩ := rowIs_spec c2
  subst c3
  subst d1
  have hE := EG_ok hR false good_nil goodM_nil
  refine ev_enterH (E := EG R false [] []) (fn := Try.f67) (c := (Try.f67.body.getD .skip)) Try.func67 (by kernel_rfl) (args := [.gsl .top 0 0 L.length]) (show 1 ≤ Try.f67.ntmps by decide) hA hB hn hO (ds := []) (wr := allW) fun a0 hP0' hB0' => ?_
  have hW : wkM [.row L.length 5 F e none] [.row L.length 5 (F5 L) e none] := ⟨⟨Nat.le_refl _, rfl, rfl, rfl, d2⟩, trivial⟩
  have hP0 := hP0'.wk (live' := [(0, .gsl .top 0 0 L.length)]) (ds' := []) (wr' := allW) (wkV.refl _) hW
  have hB0 := hB0'.wk hW
  have hz := rev_zero L
  have hl : ∀ k, (revTo L k).length = L.length := fun k => rev_len L k
  refine wp_parts (by kernel_rfl) (ev_codeWS hE 60 [0] .normal (by decide) (by rfl) (rv_a R L e) (live'' := [(0, .gsl .top 0 0 L.length), (2, .int .i64 false ((0 : Nat) : Int)), (3, .int .i64 false ((L.length : Int) - 1 - ((0 : Nat) : Int)))]) ⟨rfl, wkA.refl _, rfl, wkA_int, rfl, wkA_intE (by rw [IntKind.wrap_i64]; omega), trivial⟩ (H'' := [.row L.length 5 (F5 (revTo L 0)) e none]) ⟨wkI_row (Nat.le_refl _) (fun i _ => by rw [hz]), trivial⟩ hP0 hB0 fun a1 Hr1 w1 hP1 hB1 hT1 => ?_)
  refine wp_bk (by kernel_rfl) ?_
  refine ev_loopI (by kernel_rfl) (fun Hr' w' => Stp allW Hr w Hr' w') (L.length / 2) (.exit 0) rfl (fun k : Nat => [(0, .gsl .top 0 0 L.length), (2, .int .i64 false (k : Int)), (3, .int .i64 false ((L.length : Int) - 1 - (k : Int)))]) (fun k : Nat => [.row L.length 5 (F5 (revTo L k)) e none]) (live' := [(0, .gsl .top 0 0 L.length)]) (H' := [.row L.length 5 (F5 (revTo L (L.length / 2))) e none]) (fun k hk a2 Hr2 w2 Q' hP2 hB2 hI hnx => ?_) (fun a2 Hr2 w2 Q' hP2 hB2 hI hnx => ?_) hP1 hB1 hT1 fun a3 Hr3 w3 hP3 hB3 hI => ?_
  · have e1 : ((0 : Int) + (k : Int)).toNat = k := by omega
    have e3 : ((0 : Int) + ((L.length : Int) - 1 - (k : Int))).toNat = L.length - 1 - k := by omega
    have e2 := hl k
    have hP2 := hP2.wk (live' := [(0, .gsl .top 0 0 (revTo L k).length), (2, .int .i64 false (k : Int)), (3, .int .i64 false ((L.length : Int) - 1 - (k : Int)))]) (ds' := []) (wr' := allW) ⟨rfl, wkA_eq (by rw [e2]), rfl, wkA.refl _, rfl, wkA.refl _, trivial⟩ (H' := [.row (revTo L k).length 5 (F5 (revTo L k)) e none]) ⟨wkI_row (Nat.le_of_eq e2) (fun i _ => rfl), trivial⟩
    have hB2 := hB2.wk (H' := [.row (revTo L k).length 5 (F5 (revTo L k)) e none]) ⟨wkI_row (Nat.le_of_eq e2) (fun i _ => rfl), trivial⟩
    refine ev_codeWS hE 60 [0] .normal (by decide) (by rfl) (rv_l R (revTo L k) e (k : Int) ((L.length : Int) - 1 - (k : Int)) (allE_cons (by first | exact decide_eq_true (by omega) | exact decide_eq_true (by simp only [List.length_map, List.length_range]; omega)) (allE_cons (by first | exact decide_eq_true (by omega) | exact decide_eq_true (by simp only [List.length_map, List.length_range]; omega)) (allE_cons (by first | exact decide_eq_true (by omega) | exact decide_eq_true (by simp only [List.length_map, List.length_range]; omega)) (allE_cons (by first | exact decide_eq_true (by omega) | exact decide_eq_true (by simp only [List.length_map, List.length_range]; omega)) (allE_cons (by first | exact decide_eq_true (by omega) | exact decide_eq_true (by simp only [List.length_map, List.length_range]; omega)) (allE_cons (by first | exact decide_eq_true (by omega) | exact decide_eq_true (by simp only [List.length_map, List.length_range]; omega)) (allE_cons (by first | exact decide_eq_true (by omega) | exact decide_eq_true (by simp only [List.length_map, List.length_range]; omega)) (allE_cons (by first | exact decide_eq_true (by omega) | exact decide_eq_true (by simp only [List.length_map, List.length_range]; omega)) (allE_cons (by first | exact decide_eq_true (by omega) | exact decide_eq_true (by simp only [List.length_map, List.length_range]; omega)) allE_nil)))))))))) (live'' := [(0, .gsl .top 0 0 L.length), (2, .int .i64 false ((k + 1 : Nat) : Int)), (3, .int .i64 false ((L.length : Int) - 1 - ((k + 1 : Nat) : Int)))]) ⟨rfl, wkA_eq (by rw [e2]), rfl, wkA_intE (by rw [IntKind.wrap_i64]; omega), rfl, wkA_intE (by rw [IntKind.wrap_i64]; omega), trivial⟩ (H'' := [.row L.length 5 (F5 (revTo L (k + 1))) e none]) ⟨wkI_row (Nat.le_of_eq e2.symm) (fun i hi => by rw [e1, e3]; exact rev_next hk i hi), trivial⟩ hP2 hB2 fun a3 Hr3 w3 hP3 hB3 hT3 => ?_
    exact hnx _ _ _ hP3 hB3 (hI.trans hT3)
  · have e2 := hl (L.length / 2)
    have hP2 := hP2.wk (live' := [(0, .gsl .top 0 0 (revTo L (L.length / 2)).length), (2, .int .i64 false ((L.length / 2 : Nat) : Int)), (3, .int .i64 false ((L.length : Int) - 1 - ((L.length / 2 : Nat) : Int)))]) (ds' := []) (wr' := allW) ⟨rfl, wkA_eq (by rw [e2]), rfl, wkA.refl _, rfl, wkA.refl _, trivial⟩ (H' := [.row (revTo L (L.length / 2)).length 5 (F5 (revTo L (L.length / 2))) e none]) ⟨wkI_row (Nat.le_of_eq e2) (fun i _ => rfl), trivial⟩
    have hB2 := hB2.wk (H' := [.row (revTo L (L.length / 2)).length 5 (F5 (revTo L (L.length / 2))) e none]) ⟨wkI_row (Nat.le_of_eq e2) (fun i _ => rfl), trivial⟩
    refine ev_codeWS hE 60 [0] (.exit 0) (by decide) (by rfl) (rv_x R (revTo L (L.length / 2)) e ((L.length / 2 : Nat) : Int) ((L.length : Int) - 1 - ((L.length / 2 : Nat) : Int)) (allE_cons (by first | exact decide_eq_false (by omega) | exact decide_eq_false (by simp only [List.length_map, List.length_range]; omega)) allE_nil)) (live'' := [(0, .gsl .top 0 0 L.length)]) ⟨rfl, wkA_eq (by rw [e2]), trivial⟩ (H'' := [.row L.length 5 (F5 (revTo L (L.length / 2))) e none]) ⟨wkI_row (Nat.le_of_eq e2.symm) (fun i _ => rfl), trivial⟩ hP2 hB2 fun a3 Hr3 w3 hP3 hB3 hT3 => ?_
    exact hnx _ _ _ hP3 hB3 (hI.trans hT3)
  have hl2 := rev_last L
  rw [hl2] at hP3 hB3
  obtain ⟨rr, vv, _, _, hBl, hAp⟩ := id hP3
  exact ev_endR hE (vs := []) (fun rs => by kernel_rfl) hP3 hB3 (fun V hv => ⟨V, Hr3, rfl, hv, hBl, hAp, hB3.own, hI⟩) (.inr rfl)
end Go.Proofs.Ytcfomhnfhalmaaa
end

section
set_option linter.unusedVariables false
set_option linter.unusedSimpArgs false
set_option maxRecDepth 100000
namespace Go.Proofs.Ytcfomhnfhalmaaa
open Go.RowKit

def v5V (x : V5) : List Value := [.int .u64 (x.a.toNat : Int), .int .u64 (x.b.toNat : Int), .int .u64 (x.c.toNat : Int), .int .u64 (x.d.toNat : Int), .int .u64 (x.l.toNat : Int)]
theorem rel_v5 {R : Rws} {ρ : Nums} (x : V5) : Rel R ρ (.agg (v5 x)) (.agg (v5V x).toArray) := .agg (.cons (.bv rfl) (.cons (.bv rfl) (.cons (.bv rfl) (.cons (.bv rfl) (.cons (.bv rfl) .nil)))))
theorem rel_v5_inv {R : Rws} {ρ : Nums} {x : V5} {V : Value} (h : Rel R ρ (.agg (v5 x)) V) : V = .agg (v5V x).toArray := by
  cases h with | agg h =>
  cases h with | cons a1 h =>
  cases h with | cons a2 h =>
  cases h with | cons a3 h =>
  cases h with | cons a4 h =>
  cases h with | cons a5 h =>
  cases h
  cases a1; cases a2; cases a3; cases a4; cases a5
  rfl
def wordsB (x y : V5) : Bool := x.a == y.a && (x.b == y.b && (x.c == y.c && (x.d == y.d && true)))
def sameB (x y : V5) (up : BitVec 64) : Bool := x.l == y.l && (wordsB x y || !(belowB x.l up))
noncomputable def tsame_r0 (x y : V5) (up : BitVec 64) : AV := AV.bool true true
theorem tsame_0 (x y : V5) (up : BitVec 64) (h : AllE [(V5.l x == V5.l y, true), (false != (V5.a x == V5.a y && (V5.b x == V5.b y && (V5.c x == V5.c y && (V5.d x == V5.d y && true)))), true)]) : Is (evCall (EG noRows false [] []) 60 64 [.agg (v5 x), .agg (v5 y), .bv .u64 up] ⟨[], [true, true], allW⟩ (fun v _ => v = tsame_r0 x y up)) := ev_eq [(V5.l x == V5.l y, true), (false != (V5.a x == V5.a y && (V5.b x == V5.b y && (V5.c x == V5.c y && (V5.d x == V5.d y && true)))), true)] (tsame_r0 x y up) (by kernel_rfl) h
noncomputable def tsame_r1 (x y : V5) (up : BitVec 64) : AV := AV.bool false !V5.l x &&& ~~~(up) == BitVec.ofInt 64 0
theorem tsame_1 (x y : V5) (up : BitVec 64) (h : AllE [(V5.l x == V5.l y, true), (false != (V5.a x == V5.a y && (V5.b x == V5.b y && (V5.c x == V5.c y && (V5.d x == V5.d y && true)))), false)]) : Is (evCall (EG noRows false [] []) 60 64 [.agg (v5 x), .agg (v5 y), .bv .u64 up] ⟨[], [true, false], allW⟩ (fun v _ => v = tsame_r1 x y up)) := ev_eq [(V5.l x == V5.l y, true), (false != (V5.a x == V5.a y && (V5.b x == V5.b y && (V5.c x == V5.c y && (V5.d x == V5.d y && true)))), false)] (tsame_r1 x y up) (by kernel_rfl) h
noncomputable def tsame_r2 (x y : V5) (up : BitVec 64) : AV := AV.bool true false
theorem tsame_2 (x y : V5) (up : BitVec 64) (h : AllE [(V5.l x == V5.l y, false)]) : Is (evCall (EG noRows false [] []) 60 64 [.agg (v5 x), .agg (v5 y), .bv .u64 up] ⟨[], [false], allW⟩ (fun v _ => v = tsame_r2 x y up)) := ev_eq [(V5.l x == V5.l y, false)] (tsame_r2 x y up) (by kernel_rfl) h
theorem tsame_any (x y : V5) (up : BitVec 64)  (w : World) : Calls Try.prog 64 #[.agg (v5V x).toArray, .agg (v5V y).toArray, .int .u64 (up.toNat : Int)] w fun e w' => e = .returned (.bool (sameB x y up)) ∧ Below w.heap.size w w' := by
  rcases h0 : (V5.l x == V5.l y) with _ | _
  · have hV : (tsame_r2 x y up).told? = some (.bool (sameB x y up)) := congrArg some (by show Value.bool _ = Value.bool _; congr 1; unfold sameB wordsB; revert h0; generalize (x.a == y.a && (x.b == y.b && (x.c == y.c && (x.d == y.d && true)))) = q; generalize (x.l == y.l) = p; intro _; cases p <;> cases q <;> first | rfl | contradiction)
    exact ev_callsI (EG_ok rwOK_no false good_nil goodM_nil) 60 (tsame_2 x y up (allE_cons h0 allE_nil)) hV (.cons (rel_v5 x) (.cons (rel_v5 y) (.cons (.bv rfl) .nil))) rfl w
  · rcases h1 : (false != (V5.a x == V5.a y && (V5.b x == V5.b y && (V5.c x == V5.c y && (V5.d x == V5.d y && true))))) with _ | _
    · have hV : (tsame_r1 x y up).told? = some (.bool (sameB x y up)) := congrArg some (by show Value.bool _ = Value.bool _; congr 1; unfold sameB wordsB; revert h0 h1; generalize (x.a == y.a && (x.b == y.b && (x.c == y.c && (x.d == y.d && true)))) = q; generalize (x.l == y.l) = p; intro _ _; cases p <;> cases q <;> first | rfl | contradiction)
      exact ev_callsI (EG_ok rwOK_no false good_nil goodM_nil) 60 (tsame_1 x y up (allE_cons h0 (allE_cons h1 allE_nil))) hV (.cons (rel_v5 x) (.cons (rel_v5 y) (.cons (.bv rfl) .nil))) rfl w
    · have hV : (tsame_r0 x y up).told? = some (.bool (sameB x y up)) := congrArg some (by show Value.bool _ = Value.bool _; congr 1; unfold sameB wordsB; revert h0 h1; generalize (x.a == y.a && (x.b == y.b && (x.c == y.c && (x.d == y.d && true)))) = q; generalize (x.l == y.l) = p; intro _ _; cases p <;> cases q <;> first | rfl | contradiction)
      exact ev_callsI (EG_ok rwOK_no false good_nil goodM_nil) 60 (tsame_0 x y up (allE_cons h0 (allE_cons h1 allE_nil))) hV (.cons (rel_v5 x) (.cons (rel_v5 y) (.cons (.bv rfl) .nil))) rfl w
noncomputable def rsame_r0 (x y : V5) (up : BitVec 64) : AV := AV.bool true true
theorem rsame_0 (x y : V5) (up : BitVec 64) (h : AllE [(V5.l x == V5.l y, true), (!belowB (V5.l x) up, true)]) : Is (evCall (EG noRows false [] []) 60 78 [.agg (v5 x), .agg (v5 y), .bv .u64 up] ⟨[], [true, true], allW⟩ (fun v _ => v = rsame_r0 x y up)) := ev_eq [(V5.l x == V5.l y, true), (!belowB (V5.l x) up, true)] (rsame_r0 x y up) (by kernel_rfl) h
noncomputable def rsame_r1 (x y : V5) (up : BitVec 64) : AV := AV.bool false (false != (V5.a x == V5.a y && (V5.b x == V5.b y && (V5.c x == V5.c y && (V5.d x == V5.d y && true)))))
theorem rsame_1 (x y : V5) (up : BitVec 64) (h : AllE [(V5.l x == V5.l y, true), (!belowB (V5.l x) up, false)]) : Is (evCall (EG noRows false [] []) 60 78 [.agg (v5 x), .agg (v5 y), .bv .u64 up] ⟨[], [true, false], allW⟩ (fun v _ => v = rsame_r1 x y up)) := ev_eq [(V5.l x == V5.l y, true), (!belowB (V5.l x) up, false)] (rsame_r1 x y up) (by kernel_rfl) h
noncomputable def rsame_r2 (x y : V5) (up : BitVec 64) : AV := AV.bool true false
theorem rsame_2 (x y : V5) (up : BitVec 64) (h : AllE [(V5.l x == V5.l y, false)]) : Is (evCall (EG noRows false [] []) 60 78 [.agg (v5 x), .agg (v5 y), .bv .u64 up] ⟨[], [false], allW⟩ (fun v _ => v = rsame_r2 x y up)) := ev_eq [(V5.l x == V5.l y, false)] (rsame_r2 x y up) (by kernel_rfl) h
theorem rsame_any (x y : V5) (up : BitVec 64)  (w : World) : Calls Try.prog 78 #[.agg (v5V x).toArray, .agg (v5V y).toArray, .int .u64 (up.toNat : Int)] w fun e w' => e = .returned (.bool (sameB x y up)) ∧ Below w.heap.size w w' := by
  rcases h0 : (V5.l x == V5.l y) with _ | _
  · have hV : (rsame_r2 x y up).told? = some (.bool (sameB x y up)) := congrArg some (by show Value.bool _ = Value.bool _; congr 1; unfold sameB wordsB; revert h0; generalize (x.a == y.a && (x.b == y.b && (x.c == y.c && (x.d == y.d && true)))) = q; generalize (x.l == y.l) = p; intro _; cases p <;> cases q <;> first | rfl | contradiction)
    exact ev_callsI (EG_ok rwOK_no false good_nil goodM_nil) 60 (rsame_2 x y up (allE_cons h0 allE_nil)) hV (.cons (rel_v5 x) (.cons (rel_v5 y) (.cons (.bv rfl) .nil))) rfl w
  · rcases h1 : (!belowB (V5.l x) up) with _ | _
    · have hV : (rsame_r1 x y up).told? = some (.bool (sameB x y up)) := congrArg some (by show Value.bool _ = Value.bool _; congr 1; unfold sameB wordsB; revert h0 h1; generalize (x.a == y.a && (x.b == y.b && (x.c == y.c && (x.d == y.d && true)))) = q; generalize (x.l == y.l) = p; generalize belowB x.l up = r; intro _ _; cases p <;> cases q <;> cases r <;> first | rfl | contradiction)
      exact ev_callsI (EG_ok rwOK_no false good_nil goodM_nil) 60 (rsame_1 x y up (allE_cons h0 (allE_cons h1 allE_nil))) hV (.cons (rel_v5 x) (.cons (rel_v5 y) (.cons (.bv rfl) .nil))) rfl w
    · have hV : (rsame_r0 x y up).told? = some (.bool (sameB x y up)) := congrArg some (by show Value.bool _ = Value.bool _; congr 1; unfold sameB wordsB; revert h0 h1; generalize (x.a == y.a && (x.b == y.b && (x.c == y.c && (x.d == y.d && true)))) = q; generalize (x.l == y.l) = p; generalize belowB x.l up = r; intro _ _; cases p <;> cases q <;> cases r <;> first | rfl | contradiction)
      exact ev_callsI (EG_ok rwOK_no false good_nil goodM_nil) 60 (rsame_0 x y up (allE_cons h0 (allE_cons h1 allE_nil))) hV (.cons (rel_v5 x) (.cons (rel_v5 y) (.cons (.bv rfl) .nil))) rfl w
def ctrSame : CtrF
  | [.agg [.bv .u64 a, .bv .u64 b, .bv .u64 c, .bv .u64 d, .bv .u64 l], .agg [.bv .u64 a', .bv .u64 b', .bv .u64 c', .bv .u64 d', .bv .u64 l'], u], _ => match labA u with
    | some (_, up, cs) => some (.bool false (sameB ⟨a, b, c, d, l⟩ ⟨a', b', c', d', l'⟩ up), cs)
    | none => none
  | _, _ => none
theorem ctrS1_ok {R : Rws} : Good Try.prog R 64 ctrSame := by
  refine ⟨enters_of Try.func64 (by kernel_rfl) rfl, fun args H v cs hv hcs => ?_⟩
  unfold ctrSame at hv
  split at hv
  · rename_i a b c d l a' b' c' d' l' u
    split at hv
    · rename_i ll up cs' h1
      cases hv
      refine ⟨_, rfl, fun Hr Args ha _ _ w _ => ?_⟩
      cases ha with | cons a1 ha =>
      cases ha with | cons a2 ha =>
      cases ha with | cons a3 ha =>
      cases ha
      obtain rfl := labA_rel h1 hcs a3
      obtain rfl := rel_v5_inv (x := ⟨a, b, c, d, l⟩) a1
      obtain rfl := rel_v5_inv (x := ⟨a', b', c', d', l'⟩) a2
      exact tsame_any _ _ _ w
    · cases hv
  · cases hv
theorem ctrS2_ok {R : Rws} : Good Try.prog R 78 ctrSame := by
  refine ⟨enters_of Try.func78 (by kernel_rfl) rfl, fun args H v cs hv hcs => ?_⟩
  unfold ctrSame at hv
  split at hv
  · rename_i a b c d l a' b' c' d' l' u
    split at hv
    · rename_i ll up cs' h1
      cases hv
      refine ⟨_, rfl, fun Hr Args ha _ _ w _ => ?_⟩
      cases ha with | cons a1 ha =>
      cases ha with | cons a2 ha =>
      cases ha with | cons a3 ha =>
      cases ha
      obtain rfl := labA_rel h1 hcs a3
      obtain rfl := rel_v5_inv (x := ⟨a, b, c, d, l⟩) a1
      obtain rfl := rel_v5_inv (x := ⟨a', b', c', d', l'⟩) a2
      exact rsame_any _ _ _ w
    · cases hv
  · cases hv
noncomputable def tabS : List (Nat × CtrF) := [(64, ctrSame), (78, ctrSame)]
theorem tabS_ok {R : Rws} : ∀ p ∈ tabS, Good Try.prog R p.1 p.2 := good_cons (p := (_, _)) ctrS1_ok (good_cons (p := (_, _)) ctrS2_ok good_nil)
end Go.Proofs.Ytcfomhnfhalmaaa
end

section
set_option linter.unusedVariables false
set_option linter.unusedSimpArgs false
set_option maxRecDepth 100000
namespace Go.Proofs.Ytcfomhnfhalmaaa
open Go.RowKit

theorem eq_a (R : Rws) (L M : List V5) (up : BitVec 64) (e e' t0 : TypeId) : ∀ r, Is (evT (EG R false tabS []) 60 (.code (sL (Try.f62.body.getD .skip))) ⟨pat [(0, .gsl .any 0 0 L.length), (1, .gsl .any 1 0 M.length), (2, .func (.func 63) [.ptr 2 0])] r 0 Try.f62.ntmps, ⟨[.row L.length 5 (F5 L) e none, .row M.length 5 (F5 M) e' none, .cells [.bv .u64 up] t0], [], (newW 3)⟩⟩ (selK [0, 1, 2] .normal [(0, .gsl .any 0 0 (List.length L)), (1, .gsl .any 1 0 (List.length M)), (2, .func (.func 63) [.ptr 2 0])] Try.f62.ntmps [AIt.row (List.length L) 5 (F5 L) e none, AIt.row (List.length M) 5 (F5 M) e' none, AIt.cells [.bv .u64 up] t0])) := fun r => ev_selQ (by kernel_rfl)
theorem eq_b (R : Rws) (L M : List V5) (up : BitVec 64) (e e' t0 : TypeId) (h : AllE [((↑(List.length L) : Int) != (↑(List.length M) : Int), true)]) : ∀ r, Is (evT (EG R false tabS []) 60 (.code (sL (sR (Try.f62.body.getD .skip)))) ⟨pat [(0, .gsl .any 0 0 L.length), (1, .gsl .any 1 0 M.length), (2, .func (.func 63) [.ptr 2 0])] r 0 Try.f62.ntmps, ⟨[.row L.length 5 (F5 L) e none, .row M.length 5 (F5 M) e' none, .cells [.bv .u64 up] t0], [true], (newW 3)⟩⟩ (selK [0, 1, 2] .ret [(6, .bool true false)] Try.f62.ntmps [AIt.row (List.length L) 5 (F5 L) e none, AIt.row (List.length M) 5 (F5 M) e' none, AIt.cells [.bv .u64 up] t0])) := fun r => ev_selP (by kernel_rfl) h
theorem eq_c (R : Rws) (L M : List V5) (up : BitVec 64) (e e' t0 : TypeId) (h : AllE [((↑(List.length L) : Int) != (↑(List.length M) : Int), false)]) : ∀ r, Is (evT (EG R false tabS []) 60 (.code (sL (sR (Try.f62.body.getD .skip)))) ⟨pat [(0, .gsl .any 0 0 L.length), (1, .gsl .any 1 0 M.length), (2, .func (.func 63) [.ptr 2 0])] r 0 Try.f62.ntmps, ⟨[.row L.length 5 (F5 L) e none, .row M.length 5 (F5 M) e' none, .cells [.bv .u64 up] t0], [false], (newW 3)⟩⟩ (selK [0, 1, 2] .normal [(0, .gsl .any 0 0 (List.length L)), (1, .gsl .any 1 0 (List.length M)), (2, .func (.func 63) [.ptr 2 0])] Try.f62.ntmps [AIt.row (List.length L) 5 (F5 L) e none, AIt.row (List.length M) 5 (F5 M) e' none, AIt.cells [.bv .u64 up] t0])) := fun r => ev_selP (by kernel_rfl) h
theorem eq_d (R : Rws) (L M : List V5) (up : BitVec 64) (e e' t0 : TypeId) : ∀ r, Is (evT (EG R false tabS []) 60 (.code (sL (sL (sR (sR (Try.f62.body.getD .skip)))))) ⟨pat [(0, .gsl .any 0 0 L.length), (1, .gsl .any 1 0 M.length), (2, .func (.func 63) [.ptr 2 0])] r 0 Try.f62.ntmps, ⟨[.row L.length 5 (F5 L) e none, .row M.length 5 (F5 M) e' none, .cells [.bv .u64 up] t0], [], (newW 3)⟩⟩ (selK [0, 1, 2] .normal [(1, .gsl .any 1 0 (List.length M)), (2, .func (.func 63) [.ptr 2 0]), (15, .gsl .any 0 0 (List.length L)), (16, .int .i64 false (↑(List.length L) : Int)), (17, .int .i64 true 0)] Try.f62.ntmps [AIt.row (List.length L) 5 (F5 L) e none, AIt.row (List.length M) 5 (F5 M) e' none, AIt.cells [.bv .u64 up] t0])) := fun r => ev_selQ (by kernel_rfl)
theorem eq_l (R : Rws) (L M : List V5) (up : BitVec 64) (e e' t0 : TypeId) (k : Int) (h : AllE [(decide (k < (↑(List.length L) : Int)), true), (decide (0 ≤ k ∧ k < (↑(List.length L) : Int)), true), (decide (0 ≤ (↑0 : Int) + k ∧ (↑0 : Int) + k < (↑(List.length L) : Int)), true), (decide (0 ≤ k ∧ k < (↑(List.length M) : Int)), true), (decide (0 ≤ (↑0 : Int) + k ∧ (↑0 : Int) + k < (↑(List.length M) : Int)), true), (!sameB { a := V5.a (List.getD L (Int.toNat ((↑0 : Int) + k)) z5), b := V5.b (List.getD L (Int.toNat ((↑0 : Int) + k)) z5), c := V5.c (List.getD L (Int.toNat ((↑0 : Int) + k)) z5), d := V5.d (List.getD L (Int.toNat ((↑0 : Int) + k)) z5), l := V5.l (List.getD L (Int.toNat ((↑0 : Int) + k)) z5) } { a := V5.a (List.getD M (Int.toNat ((↑0 : Int) + k)) z5), b := V5.b (List.getD M (Int.toNat ((↑0 : Int) + k)) z5), c := V5.c (List.getD M (Int.toNat ((↑0 : Int) + k)) z5), d := V5.d (List.getD M (Int.toNat ((↑0 : Int) + k)) z5), l := V5.l (List.getD M (Int.toNat ((↑0 : Int) + k)) z5) } up, false)]) : ∀ r, Is (evT (EG R false tabS []) 60 (.code (lpB (bkB (sR (sL (sR (sR (Try.f62.body.getD .skip)))))))) ⟨pat [(1, .gsl .any 1 0 M.length), (2, .func (.func 63) [.ptr 2 0]), (15, .gsl .any 0 0 L.length), (16, .int .i64 false (L.length : Int)), (17, .int .i64 false (k))] r 0 Try.f62.ntmps, ⟨[.row L.length 5 (F5 L) e none, .row M.length 5 (F5 M) e' none, .cells [.bv .u64 up] t0], [true, false], (newW 3)⟩⟩ (selK [0, 1, 2] .normal [(1, .gsl .any 1 0 (List.length M)), (2, .func (.func 63) [.ptr 2 0]), (15, .gsl .any 0 0 (List.length L)), (16, .int .i64 false (↑(List.length L) : Int)), (17, .int .i64 false (IntKind.wrap .i64 (k + 1)))] Try.f62.ntmps [AIt.row (List.length L) 5 (F5 L) e none, AIt.row (List.length M) 5 (F5 M) e' none, AIt.cells [.bv .u64 up] t0])) := fun r => ev_selP (by kernel_rfl) h
theorem eq_r (R : Rws) (L M : List V5) (up : BitVec 64) (e e' t0 : TypeId) (k : Int) (h : AllE [(decide (k < (↑(List.length L) : Int)), true), (decide (0 ≤ k ∧ k < (↑(List.length L) : Int)), true), (decide (0 ≤ (↑0 : Int) + k ∧ (↑0 : Int) + k < (↑(List.length L) : Int)), true), (decide (0 ≤ k ∧ k < (↑(List.length M) : Int)), true), (decide (0 ≤ (↑0 : Int) + k ∧ (↑0 : Int) + k < (↑(List.length M) : Int)), true), (!sameB { a := V5.a (List.getD L (Int.toNat ((↑0 : Int) + k)) z5), b := V5.b (List.getD L (Int.toNat ((↑0 : Int) + k)) z5), c := V5.c (List.getD L (Int.toNat ((↑0 : Int) + k)) z5), d := V5.d (List.getD L (Int.toNat ((↑0 : Int) + k)) z5), l := V5.l (List.getD L (Int.toNat ((↑0 : Int) + k)) z5) } { a := V5.a (List.getD M (Int.toNat ((↑0 : Int) + k)) z5), b := V5.b (List.getD M (Int.toNat ((↑0 : Int) + k)) z5), c := V5.c (List.getD M (Int.toNat ((↑0 : Int) + k)) z5), d := V5.d (List.getD M (Int.toNat ((↑0 : Int) + k)) z5), l := V5.l (List.getD M (Int.toNat ((↑0 : Int) + k)) z5) } up, true)]) : ∀ r, Is (evT (EG R false tabS []) 60 (.code (lpB (bkB (sR (sL (sR (sR (Try.f62.body.getD .skip)))))))) ⟨pat [(1, .gsl .any 1 0 M.length), (2, .func (.func 63) [.ptr 2 0]), (15, .gsl .any 0 0 L.length), (16, .int .i64 false (L.length : Int)), (17, .int .i64 false (k))] r 0 Try.f62.ntmps, ⟨[.row L.length 5 (F5 L) e none, .row M.length 5 (F5 M) e' none, .cells [.bv .u64 up] t0], [true, true], (newW 3)⟩⟩ (selK [0, 1, 2] .ret [(6, .bool true false)] Try.f62.ntmps [AIt.row (List.length L) 5 (F5 L) e none, AIt.row (List.length M) 5 (F5 M) e' none, AIt.cells [.bv .u64 up] t0])) := fun r => ev_selP (by kernel_rfl) h
theorem eq_x (R : Rws) (L M : List V5) (up : BitVec 64) (e e' t0 : TypeId) (k : Int) (h : AllE [(decide (k < (↑(List.length L) : Int)), false)]) : ∀ r, Is (evT (EG R false tabS []) 60 (.code (lpB (bkB (sR (sL (sR (sR (Try.f62.body.getD .skip)))))))) ⟨pat [(1, .gsl .any 1 0 M.length), (2, .func (.func 63) [.ptr 2 0]), (15, .gsl .any 0 0 L.length), (16, .int .i64 false (L.length : Int)), (17, .int .i64 false (k))] r 0 Try.f62.ntmps, ⟨[.row L.length 5 (F5 L) e none, .row M.length 5 (F5 M) e' none, .cells [.bv .u64 up] t0], [false], (newW 3)⟩⟩ (selK [0, 1, 2] (.exit 0) [] Try.f62.ntmps [AIt.row (List.length L) 5 (F5 L) e none, AIt.row (List.length M) 5 (F5 M) e' none, AIt.cells [.bv .u64 up] t0])) := fun r => ev_selP (by kernel_rfl) h
theorem eq_z (R : Rws) (L M : List V5) (up : BitVec 64) (e e' t0 : TypeId) : ∀ r, Is (evT (EG R false tabS []) 60 (.code (sR (sR (sR (Try.f62.body.getD .skip))))) ⟨pat [] r 0 Try.f62.ntmps, ⟨[.row L.length 5 (F5 L) e none, .row M.length 5 (F5 M) e' none, .cells [.bv .u64 up] t0], [], (newW 3)⟩⟩ (selK [0, 1, 2] .ret [(6, .bool true true)] Try.f62.ntmps [AIt.row (List.length L) 5 (F5 L) e none, AIt.row (List.length M) 5 (F5 M) e' none, AIt.cells [.bv .u64 up] t0])) := fun r => ev_selQ (by kernel_rfl)
theorem first_no (p : Nat → Bool) : ∀ n : Nat, (∀ i, i < n → p i = true) ∨ ∃ j, j < n ∧ p j = false ∧ ∀ i, i < j → p i = true
  | 0 => .inl fun i hi => absurd hi (by omega)
  | n + 1 => by
    rcases first_no p n with h | ⟨j, h1, h2, h3⟩
    · cases hp : p n with
      | true =>
        refine .inl fun i hi => ?_
        rcases Nat.lt_or_ge i n with h' | h'
        · exact h i h'
        · rw [show i = n by omega]; exact hp
      | false => exact .inr ⟨n, by omega, hp, h⟩
    · exact .inr ⟨j, by omega, h2, h3⟩
def alikeB (L M : List V5) (up : BitVec 64) : Bool := decide (L.length = M.length) && (List.range L.length).all fun i => sameB (L.getD i z5) (M.getD i z5) up
theorem labA_wk {x : AV} {l : Bool} {a : BitVec 64} {cs : List Bool} (h : labA x = some (l, a, cs)) (hcs : ∀ c ∈ cs, c = true) : wkA x (.bv .u64 a) := fun R ρ V hr => by
  obtain rfl := labA_rel h hcs hr
  exact .bv rfl
noncomputable def eqS (L M : List V5) : SmF
  | [.gsl k 0 0 n, .gsl k' 1 0 m, .func (.func f) [.ptr 2 0]], [.row N 5 F e none, .row N' 5 F' e' none, .cells [u] t0] => match labA u with
    | some (_, up, cs) => bif Nat.beq f 63 then some (.bool false (alikeB L M up), [.row n 5 (F5 L) e none, .row m 5 (F5 M) e' none, .cells [.bv .u64 up] t0], rowIs F n L :: rowIs F' m M :: decide (n ≤ N) :: decide (m ≤ N') :: decide (n ≤ 1000000) :: cs) else none
    | none => none
  | _, _ => none
set_option maxHeartbeats 1000000 in
theorem eqS_ok {R : Rws} (hR : RwOK R) (L M : List V5) : GoodR Try.prog R 62 (eqS L M) := by
  refine ⟨enters_of Try.func62 (by kernel_rfl) rfl, fun args H v H' cs h hcs Hr w Args hA hB hn hO => ?_⟩
  unfold eqS at h
  split at h
  case h_2 => cases h
  rename_i k n k' m f N F e N' F' e' u t0
  split at h
  case h_2 => cases h
  rename_i ll up cs0 hu
  cases hf : Nat.beq f 63 <;> simp only [hf, cond_true, cond_false] at h
  · cases h
  obtain rfl := Nat.eq_of_beq_eq_true hf
  cases h
  simp only [List.mem_cons, forall_eq_or_imp] at hcs
  obtain ⟨c1, c2, c3, c4, c5, c6⟩ := hcs
  have c3 := of_decide_eq_true c3
  have c4 := of_decide_eq_true c4
  have c5 := of_decide_eq_true c5
  obtain ⟨d1, d2⟩ := rowIs_spec c1
  obtain ⟨d3, d4⟩ := rowIs_spec c2
  subst d1
  subst d3
  have hE := EG_ok hR false tabS_ok goodM_nil
  refine ev_enterH (E := EG R false tabS []) (fn := Try.f62) (c := (Try.f62.body.getD .skip)) Try.func62 (by kernel_rfl) (args := [.gsl k 0 0 L.length, .gsl k' 1 0 M.length, .func (.func 63) [.ptr 2 0]]) (show 3 ≤ Try.f62.ntmps by decide) hA hB hn hO (ds := []) (wr := allW) fun a0 hP0' hB0' => ?_
  have hW : wkM [.row N 5 F e none, .row N' 5 F' e' none, .cells [u] t0] [.row L.length 5 (F5 L) e none, .row M.length 5 (F5 M) e' none, .cells [.bv .u64 up] t0] := ⟨⟨c3, rfl, rfl, rfl, d2⟩, ⟨c4, rfl, rfl, rfl, d4⟩, ⟨rfl, labA_wk hu c6, trivial⟩, trivial⟩
  have hP0 := hP0'.wk (live' := [(0, .gsl .any 0 0 L.length), (1, .gsl .any 1 0 M.length), (2, .func (.func 63) [.ptr 2 0])]) (ds' := []) (wr' := allW) ⟨rfl, wkA_any, rfl, wkA_any, rfl, wkA.refl _, trivial⟩ hW
  have hB0 := hB0'.wk hW
  refine wp_parts (by kernel_rfl) (ev_codeWS hE 60 [0, 1, 2] .normal (by decide) (by rfl) (eq_a R L M up e e' t0) (wkV.refl _) (wkM.refl _) hP0 hB0 fun a1 Hr1 w1 hP1 hB1 hT1 => ?_)
  by_cases hlen : L.length = M.length
  case neg =>
    refine wp_parts (by kernel_rfl) (ev_codeWS hE 60 [0, 1, 2] .ret (by decide) (by rfl) (eq_b R L M up e e' t0 (allE_cons (by simp only [bne_iff_ne, ne_eq]; omega) allE_nil)) (wkV.refl _) (wkM.refl _) hP1 hB1 fun a2 Hr2 w2 hP2 hB2 hT2 => ?_)
    have ha : alikeB L M up = false := by simp [alikeB, hlen]
    rw [ha]
    obtain ⟨rr, vv, _, _, hBl, hAp⟩ := id hP2
    exact ev_endR hE (vs := [.bool true false]) (fun rs => by kernel_rfl) hP2 hB2 (fun V hv => ⟨V, Hr2, rfl, wkA_bool (l := true) (l' := false) _ _ _ hv, hBl, hAp, hB2.own, hT1.trans hT2⟩) (.inl rfl)
  refine wp_parts (by kernel_rfl) (ev_codeWS hE 60 [0, 1, 2] .normal (by decide) (by rfl) (eq_c R L M up e e' t0 (allE_cons (by rw [hlen]; simp) allE_nil)) (wkV.refl _) (wkM.refl _) hP1 hB1 fun a2 Hr2 w2 hP2 hB2 hT2 => ?_)
  refine wp_parts (by kernel_rfl) (wp_parts (by kernel_rfl) (ev_codeWS hE 60 [0, 1, 2] .normal (by decide) (by rfl) (eq_d R L M up e e' t0) (live'' := [(1, .gsl .any 1 0 M.length), (2, .func (.func 63) [.ptr 2 0]), (15, .gsl .any 0 0 L.length), (16, .int .i64 false (L.length : Int)), (17, .int .i64 false (((0 : Nat) : Int)))]) ⟨rfl, wkA.refl _, rfl, wkA.refl _, rfl, wkA.refl _, rfl, wkA.refl _, rfl, wkA_int, trivial⟩ (wkM.refl _) hP2 hB2 fun a3 Hr3 w3 hP3 hB3 hT3 => ?_))
  refine wp_bk (by kernel_rfl) ?_
  have hstep : ∀ k, k < L.length → sameB (L.getD k z5) (M.getD k z5) up = true → ∀ a2 Hr2 w2 (Q' : Exit → Act → World → Prop), PatSt R ([].map markD) [(1, .gsl .any 1 0 M.length), (2, .func (.func 63) [.ptr 2 0]), (15, .gsl .any 0 0 L.length), (16, .int .i64 false (L.length : Int)), (17, .int .i64 false ((k : Int)))] Try.f62.ntmps ⟨[.row L.length 5 (F5 L) e none, .row M.length 5 (F5 M) e' none, .cells [.bv .u64 up] t0], [], allW⟩ a2 Hr2 → Bun R [] 0 w [.row L.length 5 (F5 L) e none, .row M.length 5 (F5 M) e' none, .cells [.bv .u64 up] t0] Hr2 w2 → Stp (newW 3) Hr w Hr2 w2 → (∀ a' Hr' w', PatSt R ([].map markD) [(1, .gsl .any 1 0 M.length), (2, .func (.func 63) [.ptr 2 0]), (15, .gsl .any 0 0 L.length), (16, .int .i64 false (L.length : Int)), (17, .int .i64 false (((k + 1 : Nat) : Int)))] Try.f62.ntmps ⟨[.row L.length 5 (F5 L) e none, .row M.length 5 (F5 M) e' none, .cells [.bv .u64 up] t0], [], allW⟩ a' Hr' → Bun R [] 0 w [.row L.length 5 (F5 L) e none, .row M.length 5 (F5 M) e' none, .cells [.bv .u64 up] t0] Hr' w' → Stp (newW 3) Hr w Hr' w' → Q' .normal a' w') → Code.wp Try.prog (lpB (bkB (sR (sL (sR (sR (Try.f62.body.getD .skip))))))) Q' a2 w2 := fun k hk hs a2 Hr2 w2 Q' hP2 hB2 hI hnx => by
    have e1 : ((0 : Int) + (k : Int)).toNat = k := by omega
    refine ev_codeWS hE 60 [0, 1, 2] .normal (by decide) (by rfl) (eq_l R L M up e e' t0 (k : Int) (allE_cons (by first | exact decide_eq_true (by omega) | exact decide_eq_true (by simp only [List.length_map, List.length_range]; omega)) (allE_cons (by first | exact decide_eq_true (by omega) | exact decide_eq_true (by simp only [List.length_map, List.length_range]; omega)) (allE_cons (by first | exact decide_eq_true (by omega) | exact decide_eq_true (by simp only [List.length_map, List.length_range]; omega)) (allE_cons (by first | exact decide_eq_true (by omega) | exact decide_eq_true (by simp only [List.length_map, List.length_range]; omega)) (allE_cons (by first | exact decide_eq_true (by omega) | exact decide_eq_true (by simp only [List.length_map, List.length_range]; omega)) (allE_cons (by rw [e1]; simpa using hs) allE_nil))))))) (live'' := [(1, .gsl .any 1 0 M.length), (2, .func (.func 63) [.ptr 2 0]), (15, .gsl .any 0 0 L.length), (16, .int .i64 false (L.length : Int)), (17, .int .i64 false (((k + 1 : Nat) : Int)))]) ⟨rfl, wkA.refl _, rfl, wkA.refl _, rfl, wkA.refl _, rfl, wkA.refl _, rfl, wkA_intE (by rw [IntKind.wrap_i64]; omega), trivial⟩ (wkM.refl _) hP2 hB2 fun a3 Hr3 w3 hP3 hB3 hT3 => ?_
    exact hnx _ _ _ hP3 hB3 (hI.trans hT3)
  rcases first_no (fun i => sameB (L.getD i z5) (M.getD i z5) up) L.length with hall | ⟨j, hj, hno, hbef⟩
  · refine ev_loopI (by kernel_rfl) (fun Hr' w' => Stp (newW 3) Hr w Hr' w') L.length (.exit 0) rfl (fun k : Nat => [(1, .gsl .any 1 0 M.length), (2, .func (.func 63) [.ptr 2 0]), (15, .gsl .any 0 0 L.length), (16, .int .i64 false (L.length : Int)), (17, .int .i64 false ((k : Int)))]) (fun _ => [.row L.length 5 (F5 L) e none, .row M.length 5 (F5 M) e' none, .cells [.bv .u64 up] t0]) (live' := []) (H' := [.row L.length 5 (F5 L) e none, .row M.length 5 (F5 M) e' none, .cells [.bv .u64 up] t0]) (fun k hk a2 Hr2 w2 Q' hP2 hB2 hI hnx => hstep k hk (hall k hk) a2 Hr2 w2 Q' hP2 hB2 hI hnx) (fun a2 Hr2 w2 Q' hP2 hB2 hI hnx => ?_) hP3 hB3 ((hT1.trans hT2).trans hT3) fun a3 Hr3 w3 hP3 hB3 hI => ?_
    · refine ev_codeWS hE 60 [0, 1, 2] (.exit 0) (by decide) (by rfl) (eq_x R L M up e e' t0 (L.length : Int) (allE_cons (by first | exact decide_eq_false (by omega) | exact decide_eq_false (by simp only [List.length_map, List.length_range]; omega)) allE_nil)) (wkV.refl _) (wkM.refl _) hP2 hB2 fun a3 Hr3 w3 hP3 hB3 hT3 => ?_
      exact hnx _ _ _ hP3 hB3 (hI.trans hT3)
    refine ev_codeWS hE 60 [0, 1, 2] .ret (by decide) (by rfl) (eq_z R L M up e e' t0) (wkV.refl _) (wkM.refl _) hP3 hB3 fun a4 Hr4 w4 hP4 hB4 hT4 => ?_
    have ha : alikeB L M up = true := by
      unfold alikeB
      rw [Bool.and_eq_true, decide_eq_true_eq, List.all_eq_true]
      exact ⟨hlen, fun i hi => hall i (List.mem_range.1 hi)⟩
    rw [ha]
    obtain ⟨rr, vv, _, _, hBl, hAp⟩ := id hP4
    exact ev_endR hE (vs := [.bool true true]) (fun rs => by kernel_rfl) hP4 hB4 (fun V hv => ⟨V, Hr4, rfl, wkA_bool (l := true) (l' := false) _ _ _ hv, hBl, hAp, hB4.own, hI.trans hT4⟩) (.inl rfl)
  · refine ev_loopI (by kernel_rfl) (fun Hr' w' => Stp (newW 3) Hr w Hr' w') j .ret rfl (fun k : Nat => [(1, .gsl .any 1 0 M.length), (2, .func (.func 63) [.ptr 2 0]), (15, .gsl .any 0 0 L.length), (16, .int .i64 false (L.length : Int)), (17, .int .i64 false ((k : Int)))]) (fun _ => [.row L.length 5 (F5 L) e none, .row M.length 5 (F5 M) e' none, .cells [.bv .u64 up] t0]) (live' := [(6, .bool true false)]) (H' := [.row L.length 5 (F5 L) e none, .row M.length 5 (F5 M) e' none, .cells [.bv .u64 up] t0]) (fun k hk a2 Hr2 w2 Q' hP2 hB2 hI hnx => hstep k (by omega) (hbef k hk) a2 Hr2 w2 Q' hP2 hB2 hI hnx) (fun a2 Hr2 w2 Q' hP2 hB2 hI hnx => ?_) hP3 hB3 ((hT1.trans hT2).trans hT3) fun a3 Hr3 w3 hP3 hB3 hI => ?_
    · have e1 : ((0 : Int) + (j : Int)).toNat = j := by omega
      have hno : sameB (L.getD j z5) (M.getD j z5) up = false := hno
      refine ev_codeWS hE 60 [0, 1, 2] .ret (by decide) (by rfl) (eq_r R L M up e e' t0 (j : Int) (allE_cons (by first | exact decide_eq_true (by omega) | exact decide_eq_true (by simp only [List.length_map, List.length_range]; omega)) (allE_cons (by first | exact decide_eq_true (by omega) | exact decide_eq_true (by simp only [List.length_map, List.length_range]; omega)) (allE_cons (by first | exact decide_eq_true (by omega) | exact decide_eq_true (by simp only [List.length_map, List.length_range]; omega)) (allE_cons (by first | exact decide_eq_true (by omega) | exact decide_eq_true (by simp only [List.length_map, List.length_range]; omega)) (allE_cons (by first | exact decide_eq_true (by omega) | exact decide_eq_true (by simp only [List.length_map, List.length_range]; omega)) (allE_cons (by rw [e1]; simpa using hno) allE_nil))))))) (wkV.refl _) (wkM.refl _) hP2 hB2 fun a3 Hr3 w3 hP3 hB3 hT3 => ?_
      exact hnx _ _ _ hP3 hB3 (hI.trans hT3)
    have ha : alikeB L M up = false := by
      unfold alikeB
      rw [Bool.and_eq_false_iff]
      refine .inr (List.all_eq_false.2 ⟨j, List.mem_range.2 hj, by simp only [hno]; decide⟩)
    rw [ha]
    obtain ⟨rr, vv, _, _, hBl, hAp⟩ := id hP3
    exact ev_endR hE (vs := [.bool true false]) (fun rs => by kernel_rfl) hP3 hB3 (fun V hv => ⟨V, Hr3, rfl, wkA_bool (l := true) (l' := false) _ _ _ hv, hBl, hAp, hB3.own, hI⟩) (.inl rfl)
end Go.Proofs.Ytcfomhnfhalmaaa
end

section
set_option linter.unusedVariables false
set_option linter.unusedSimpArgs false
set_option maxRecDepth 100000
end

section
set_option linter.unusedVariables false
set_option linter.unusedSimpArgs false
set_option maxRecDepth 100000
namespace Go.Proofs.Ytcfomhnfhalmaaa
open Go.RowKit

def pushL (L : List V5) (x : V5) : List V5 := mapN (L.length + 1) fun i => if i < L.length then L.getD i z5 else x
def takeL (L : List V5) (m : Nat) : List V5 := mapN m fun i => L.getD i z5
def swapL (L : List V5) (k : Nat) : List V5 := mapN L.length fun i => if i = L.length - 1 - k then L.getD (L.length - 1) z5 else if i = L.length - 1 then L.getD (L.length - 1 - k) z5 else L.getD i z5
end Go.Proofs.Ytcfomhnfhalmaaa
end

section
set_option linter.unusedVariables false
set_option linter.unusedSimpArgs false
set_option maxRecDepth 100000
namespace Go.Proofs.Ytcfomhnfhalmaaa
open Go.RowKit

theorem swap_row {L : List V5} {p q i : Nat} : putR 5 (putR 5 (fun i => F5 L (0 + i)) p 0 (List.take 5 (F5 L (0 + q)))) q 0 (List.take 5 (F5 L (0 + p))) i = v5 (if i = q then L.getD p z5 else if i = p then L.getD q z5 else L.getD i z5) := by
  have e : ∀ j, List.take 5 (F5 L (0 + j)) = F5 L j := fun j => by rw [Nat.zero_add]; rfl
  rw [e, e]
  have hF : putR 5 (fun i => F5 L (0 + i)) p 0 (F5 L q) = fun j => if j = p then F5 L q else F5 L j := by
    funext j
    rw [putR_up (s := 5) (F := fun i => F5 L (0 + i)) (m := p) (o := 0) (vs := F5 L q) (show 0 + (F5 L q).length ≤ 5 by rw [F5_len]; decide) (F5_len _ _)]
    by_cases h : j = p
    · rw [if_pos h, if_pos h]; rfl
    · rw [if_neg h, if_neg h, Nat.zero_add]
  rw [hF, putR_up (s := 5) (o := 0) (vs := F5 L p) (show 0 + (F5 L p).length ≤ 5 by rw [F5_len]; decide) (by split <;> rfl)]
  by_cases h1 : i = q
  · rw [if_pos h1, if_pos h1]
    split <;> rfl
  · rw [if_neg h1, if_neg h1]
    by_cases h2 : i = p
    · rw [if_pos h2, if_pos h2]; rfl
    · rw [if_neg h2, if_neg h2]; rfl
theorem push_row {L : List V5} {y : V5} {i : Nat} (hi : i < L.length + 1) : (bif Nat.blt i L.length then F5 L (0 + i) else List.take 5 (List.drop ((i - L.length) * 5) (v5 y))) = F5 (pushL L y) i := by
  rw [show F5 (pushL L y) i = v5 (if i < L.length then L.getD i z5 else y) from F5_mapN hi]
  by_cases h : i < L.length
  · rw [show Nat.blt i L.length = true by rw [Nat.blt_eq]; exact h, cond_true, if_pos h, Nat.zero_add]; rfl
  · rw [show Nat.blt i L.length = false by rw [← Bool.not_eq_true, Nat.blt_eq]; exact h, cond_false, if_neg h, show i - L.length = 0 by omega]; rfl
theorem rowIs_of {F : Nat → List AV} {n : Nat} {L : List V5} (h1 : L.length = n) (h2 : ∀ i, i < n → AV.vals? (F i) = AV.vals? (F5 L i)) : rowIs F n L = true := by
  simpa [rowIs, h1] using h2
theorem push_len (L : List V5) (y : V5) : (pushL L y).length = L.length + 1 := mapN_len _ _
theorem take_len (L : List V5) (m : Nat) : (takeL L m).length = m := mapN_len _ _
theorem swap_len (L : List V5) (k : Nat) : (swapL L k).length = L.length := mapN_len _ _
end Go.Proofs.Ytcfomhnfhalmaaa
end

section
set_option linter.unusedVariables false
set_option linter.unusedSimpArgs false
set_option maxRecDepth 100000
namespace Go.Proofs.Ytcfomhnfhalmaaa
open Go.RowKit

/-- A slice that is handed in: n elements of s cells each. -/
def mkRow (A : Option Addr) (n s : Nat) (G : Nat → List AV) : RowI := ⟨A, n, s, fun i => G i.toNat, fun i => (AV.vals? (G i)).getD [], []⟩
def rws (l : List RowI) : Rws := fun j => l[j]?
structure RowFine (r : RowI) : Prop where
  val : ∀ i : Nat, i < r.n → AV.vals? (r.F i) = some (r.V i)
  len : ∀ i, i < r.n → (r.V i).length = r.s
  one : ∀ i, i < r.n → ∀ v ∈ r.V i, v.oneCell' = true
  addr : 0 < r.n → ∃ b off, r.A = some ⟨b, off, none⟩
  sub : r.sub = []
theorem mkRow_fine {A : Option Addr} {n s : Nat} {G : Nat → List AV} (hG : ∀ i, ∃ V, AV.vals? (G i) = some V ∧ V.length = s ∧ ∀ v ∈ V, v.oneCell' = true) (hA : 0 < n → ∃ b off, A = some ⟨b, off, none⟩) : RowFine (mkRow A n s G) := by
  refine ⟨fun i _ => ?_, fun i _ => ?_, fun i _ v hv => ?_, hA, rfl⟩
  · obtain ⟨V, h1, _⟩ := hG i
    show AV.vals? (G ((i : Nat) : Int).toNat) = some ((AV.vals? (G i)).getD [])
    rw [Int.toNat_natCast, h1]; rfl
  · obtain ⟨V, h1, h2, _⟩ := hG i
    show ((AV.vals? (G i)).getD []).length = s
    rw [h1]; exact h2
  · obtain ⟨V, h1, _, h3⟩ := hG i
    have hv : v ∈ (AV.vals? (G i)).getD [] := hv
    rw [h1] at hv
    exact h3 v hv
theorem rws_ok {l : List RowI} (h : ∀ r ∈ l, RowFine r) : RwOK (rws l) := by
  have hm : ∀ {j r}, rws l j = some r → RowFine r := fun {j r} hj => h r (List.mem_of_getElem? hj)
  refine ⟨fun j r hj i hi => (hm hj).val i hi, fun j r hj i hi => (hm hj).len i hi, fun j r hj i hi v hv => (hm hj).one i hi v hv, fun j r hj h0 => (hm hj).addr h0, fun j r hj a j' ha => ?_⟩
  rw [(hm hj).sub] at ha; cases ha
/-- What the slice's cells are. -/
def rowCells (n : Nat) (G : Nat → List AV) : List Value := (List.range n).flatMap fun i => (AV.vals? (G i)).getD []
theorem mkRow_addr {A : Option Addr} {n s : Nat} {G : Nat → List AV} {w : World} (hs : 0 < s) (hG : ∀ i, ∃ V, AV.vals? (G i) = some V ∧ V.length = s ∧ ∀ v ∈ V, v.oneCell' = true) (hS : SlAt w A (rowCells n G)) (h0 : 0 < n) : ∃ b off, A = some ⟨b, off, none⟩ := by
  rcases hS with h | ⟨b, off, rfl, _⟩
  · exfalso
    have hl : (rowCells n G).length = n * s := rng_len fun i _ => by obtain ⟨V, h1, h2, _⟩ := hG i; rw [h1]; exact h2
    rw [h] at hl
    have := Nat.mul_pos h0 hs
    simp at hl; omega
  · exact ⟨b, off, rfl⟩
theorem rws_rd {l : List RowI} {w : World} (h : ∀ r ∈ l, ∃ n s G, r = mkRow r.A n s G ∧ 0 < s ∧ (∀ i, ∃ V, AV.vals? (G i) = some V ∧ V.length = s ∧ ∀ v ∈ V, v.oneCell' = true) ∧ SlAt w r.A (rowCells n G)) : Rd (rws l) [] w := fun j r hj b off hA h0 => by
  obtain ⟨n, s, G, e, hs, hG, hS⟩ := h r (List.mem_of_getElem? hj)
  rw [e] at h0 ⊢
  have h0 : 0 < n := h0
  rw [hA] at hS
  rcases hS with h | ⟨b', off', hA', hb, hc⟩
  · exfalso
    have hl : (rowCells n G).length = n * s := rng_len fun i _ => by obtain ⟨V, h1, h2, _⟩ := hG i; rw [h1]; exact h2
    rw [h] at hl
    have := Nat.mul_pos h0 hs
    simp at hl; omega
  · cases hA'
    refine ⟨by simp, hb, fun i hi q u hu => ?_⟩
    have hi : i < n := hi
    have hu : ((AV.vals? (G i)).getD [])[q]? = some u := hu
    obtain ⟨V, h1, h2, _⟩ := hG i
    have hq : q < s := by rw [h1] at hu; rw [← h2]; exact (List.getElem?_eq_some_iff.1 hu).1
    have h3 := hc (i * s + q) u ((rng_get (V := fun i => (AV.vals? (G i)).getD []) (fun i _ => by obtain ⟨V, h1, h2, _⟩ := hG i; simp only [h1]; exact h2) i q hi hq).trans hu)
    show w.cell? ⟨b, off + i * s + q, none⟩ = some u
    rw [Nat.add_assoc]; exact h3
end Go.Proofs.Ytcfomhnfhalmaaa
end

section
set_option linter.unusedVariables false
set_option linter.unusedSimpArgs false
namespace Go.Proofs.Ytcfomhnfhalmaaa
open Go.RowKit

/-- At the outermost, or in a round. -/
def NF (F : Fence) : Prop := F = Fence.wide ∨ ∃ l, F = Fence.wide.inRound l
section
variable {P : Program} {F : Fence} {a : Act} {w : World} {Q : Exit → Act → World → Prop} {ops : Array Oper}
theorem operF (hF : NF F) (o : Oper) (hd : ∀ c, o.op ≠ .defer c) {K : Act → World → Prop} (h : o.wp P a w K Q) : o.wpIn F 0 P a w K Q := by
  rcases hF with rfl | ⟨l, rfl⟩
  · refine ⟨fun _ _ => trivial, ?_⟩
    rw [Oper.semAt_eq _ _ o hd]
    unfold Oper.wp at h
    cases hr : (execOp a.eval o).run P w with
    | ok x w' =>
      rw [hr] at h
      cases x <;> simp only [Oper.upon, Oper.uponIn] at h ⊢
      all_goals first
        | exact h
        | exact h.elim
        | exact ⟨fun h => by simp [Fence.wide] at h, callsIn_wide.2 h⟩
        | skip
      all_goals exact ⟨fun h => by simp [Fence.wide] at h, fun c cs _ => let ⟨v, w', r, s⟩ := h c cs; ⟨v, w', r, stepsIn_wide.2 s⟩⟩
    | halt x w' =>
      rw [hr] at h
      cases x <;> simp only [Oper.upon, Oper.uponIn] at h ⊢ <;> first | exact h | exact h.elim
  · exact operIn o hd h
end
section
variable {P : Program} {F : Fence} {a : Act} {w : World} {Q : Exit → Act → World → Prop} {ops : Array Oper}
/-- A call of yield. -/
theorem list_yield (hF : NF F) {o : Oper} {rest : List Oper} {g : Operand} {xs : Array Operand} {ts : Array TypeId} {l : Nat} {args : Array Value} {Post : Ending → World → Prop} (hw : Region.wanted o (yielded ops a.tmps) = true) (ho : o.op = .call ⟨.value g, xs, ts⟩) (hg : a.eval g = .func (.yield l) #[] #[]) (hargs : xs.map a.eval = args)
    (hy : YieldAt Fence.wide 0 P l args w Post) (hk : ∀ e w', Post e w' → ∃ v, e = .returned v ∧ wpListIn F 0 P ops Q rest (a.put o.dst v) w') : wpListIn F 0 P ops Q (o :: rest) a w := by
  obtain ⟨fn, tmps, assign, body, hrun, hR⟩ := hy
  have hfn : ∀ f, F.fn f := by rcases hF with rfl | ⟨l, rfl⟩ <;> intro f <;> trivial
  have hdp : F.depth.isSome = true → 1 ≤ 0 := by rcases hF with rfl | ⟨l, rfl⟩ <;> intro h <;> cases h
  have hRF : RoundIn F 0 P l fn tmps assign body w Post := by rcases hF with rfl | ⟨l, rfl⟩ <;> exact hR
  unfold wpListIn
  rw [if_pos hw]
  refine ⟨fun f _ => hfn f, ?_⟩
  rw [Oper.semAt_eq _ _ o (fun c hc => by rw [ho] at hc; cases hc)]
  have hr : (execOp a.eval o).run P w = .ok (.round l fn tmps assign body) w := by
    obtain ⟨dst, op, ty, pos, aft, gd⟩ := o
    have ho : op = .call ⟨.value g, xs, ts⟩ := ho
    subst ho
    simp only [execOp, resolve, hg, Deferred.ofValue, Sem.run_bind, Sem.run_pure, Result.andThen_ok, invoke, hargs]
    simpa using hrun
  rw [hr]
  refine ⟨hdp, hRF.mono fun e w' he => ?_⟩
  obtain ⟨v, rfl, h⟩ := hk e w' he
  exact h
end
/-- What abides any change to blocks from B on abides many of them. -/
theorem any_all {β : Type} {B : Nat} {I : β → World → Prop} (hI : AnyFrom B I) {s : β} {W W' : World} (h : I s W) (hos : W'.os = W.os) (ht : W'.tape = W.tape) (ho : W'.output = W.output) (hsz : W.heap.size ≤ W'.heap.size) (hb : ∀ k, k < B → k < W.heap.size → W'.heap[k]? = W.heap[k]?) : I s W' := by
  -- as long as W' and hereafter like W' but for these places
  have key : ∀ (d lo : Nat) (W1 : World), I s W1 → W1.os = W'.os → W1.tape = W'.tape → W1.output = W'.output → W1.heap.size = W'.heap.size → B ≤ lo → (∀ k, k < lo ∨ lo + d ≤ k → W1.heap[k]? = W'.heap[k]?) → I s W' := by
    intro d
    induction d with
    | zero =>
      intro lo W1 h1 e1 e2 e3 e4 _ e6
      exact hI s W1 W' none h1 ⟨e1.symm, e2.symm, e3.symm, by rw [e4]; exact Nat.le_refl _, fun k _ _ => (e6 k (by omega)).symm⟩ (fun r e => by cases e)
    | succ d ih =>
      intro lo W1 h1 e1 e2 e3 e4 e5 e6
      rcases Nat.lt_or_ge lo W'.heap.size with hlt | hge
      · have hg : W1.grownBy (W1.putObj lo W'.heap[lo]) (some lo) := grownBy_putObj' W1 lo _
        refine ih (lo + 1) (W1.putObj lo W'.heap[lo]) (hI s W1 _ (some lo) h1 hg (fun r e => by cases e; exact e5)) e1 e2 e3 (by simpa [World.putObj] using e4) (by omega) (fun k hk => ?_)
        by_cases hkl : k = lo
        · subst hkl
          rw [World.putObj_heap_same (by rw [e4]; exact hlt), Array.getElem?_eq_getElem hlt]
        · rw [World.putObj_heap_other hkl]
          exact e6 k (by omega)
      · refine ih (lo + 1) W1 h1 e1 e2 e3 e4 (by omega) (fun k hk => ?_)
        by_cases hkl : k = lo
        · rw [Array.getElem?_eq_none (by omega), Array.getElem?_eq_none (by omega)]
        · exact e6 k (by omega)
  -- first only what is new
  have h0 : I s { W' with heap := W.heap ++ W'.heap.extract W.heap.size W'.heap.size } := hI s W _ none h ⟨hos, ht, ho, by simp, fun k hk _ => by simp [Array.getElem?_append_left hk]⟩ (fun r e => by cases e)
  refine key W.heap.size B _ h0 rfl rfl rfl (by simp; omega) (Nat.le_refl _) (fun k hk => ?_)
  rcases Nat.lt_or_ge k W.heap.size with hlt | hge
  · rcases hk with hk | hk
    · show (W.heap ++ W'.heap.extract W.heap.size W'.heap.size)[k]? = W'.heap[k]?
      rw [Array.getElem?_append_left hlt]; exact (hb k hk hlt).symm
    · omega
  · show (W.heap ++ W'.heap.extract W.heap.size W'.heap.size)[k]? = W'.heap[k]?
    rw [Array.getElem?_append_right hge, Array.getElem?_extract]
    rw [show W.heap.size + (k - W.heap.size) = k by omega]
    split
    · rfl
    · rw [Array.getElem?_eq_none (by omega)]
end Go.Proofs.Ytcfomhnfhalmaaa
end

section
set_option linter.unusedVariables false
set_option linter.unusedSimpArgs false
set_option maxRecDepth 100000
namespace Go.Proofs.Ytcfomhnfhalmaaa
open Go.RowKit

def wrZ (fz : List Nat) : Nat → Bool := fun l => !memN l fz
/-- What is known: the labels' blocks were made by the call (n0 on), below B or since V0 or else frozen; what S holds and what lies from B on is as it was at V0. -/
structure It (R : Rws) (base : Nums) (n0 : Nat) (S0 S : Nat → Prop) (B : Nat) (fz : List Nat) (V0 : World) (J : World → Prop) (H : Mem) (Hr : List RBlk) (V : World) : Prop where
  own : OwnK R H Hr V
  lab : ∀ (l : Nat) (q : Num), (nums Hr)[l]? = some q → q.ph = false → (n0 ≤ q.b ∧ (q.b < B ∨ V0.heap.size ≤ q.b ∨ memN l fz = true)) ∨ (S0 q.b ∧ memN l fz = true)
  n0v : n0 ≤ V0.heap.size
  sv : ∀ k, S k → k < V0.heap.size
  frz : ∀ k, S k → ∀ (l : Nat) (q : Num), (nums Hr)[l]? = some q → q.ph = false → q.b = k → memN l fz = true
  keep : Keep (fun b => S b ∨ B ≤ b) V0 V
  ext : ∃ σ, nums Hr = base ++ σ
  j : J V
abbrev AnyN (n0 : Nat) (J : World → Prop) : Prop := AnyFrom n0 (fun (_ : Unit) V => J V)
section
variable {R : Rws} {base : Nums} {n0 B : Nat} {S0 S : Nat → Prop} {fz : List Nat} {V0 V V' : World} {J : World → Prop} {H H' : Mem} {Hr Hr' : List RBlk}
theorem wrZ_f {l : Nat} (h : memN l fz = true) : wrZ fz l = false := by unfold wrZ; rw [h]; rfl
theorem It.stp (hJ : AnyN n0 J) (h : It R base n0 S0 S B fz V0 J H Hr V) (hO : OwnK R H' Hr' V') (hst : Stp (wrZ fz) Hr V Hr' V') : It R base n0 S0 S B fz V0 J H' Hr' V' := by
  obtain ⟨σ, hσ, hσ2⟩ := hst.ext
  have hsz := h.keep.size
  have new : ∀ (l : Nat) (q : Num), (nums Hr')[l]? = some q → q.ph = false → (nums Hr)[l]? = some q ∨ V.heap.size ≤ q.b ∨ ∃ (l' : Nat) (p : Num), (nums Hr)[l']? = some p ∧ p.ph = false ∧ p.b = q.b ∧ wrZ fz l' = true := fun l q hq hp => by
    rw [hσ] at hq
    rcases Nat.lt_or_ge l (nums Hr).length with hlt | hge
    · rw [List.getElem?_append_left hlt] at hq; exact .inl hq
    · rw [List.getElem?_append_right hge] at hq
      rcases hσ2 q (List.mem_of_getElem? hq) hp with g | g
      · exact .inr (.inl g)
      · exact .inr (.inr g)
  have hnv := h.n0v
  refine ⟨hO, fun l q hq hp => ?_, h.n0v, h.sv, fun k hk l q hq hp hb => ?_, ⟨hst.os.trans h.keep.os, hst.tape.trans h.keep.tape, hst.output.trans h.keep.output, Nat.le_trans hsz hst.size, fun k hk hl => ?_⟩, ?_, ?_⟩
  · rcases new l q hq hp with g | g | ⟨l', p, g1, g2, g3, g4⟩
    · exact h.lab l q g hp
    · exact .inl ⟨by omega, .inr (.inl (by omega))⟩
    · rcases h.lab l' p g1 g2 with ⟨a, b⟩ | ⟨_, b⟩
      · rw [g3] at a b
        refine .inl ⟨a, ?_⟩
        rcases b with b | b | b
        · exact .inl b
        · exact .inr (.inl b)
        · rw [wrZ_f b] at g4; cases g4
      · rw [wrZ_f b] at g4; cases g4
  · have hkv := h.sv k hk
    rcases new l q hq hp with g | g | ⟨l', p, g1, g2, g3, g4⟩
    · exact h.frz k hk l q g hp hb
    · omega
    · have := h.frz k hk l' p g1 g2 (g3.trans hb)
      rw [wrZ_f this] at g4; cases g4
  · refine (hst.block k (by omega) (fun l q hq hp hb => ?_)).trans (h.keep.block k hk hl)
    rcases hk with hk | hk
    · exact wrZ_f (h.frz k hk l q hq hp hb)
    · rcases h.lab l q hq hp with ⟨_, b⟩ | ⟨_, b⟩
      · rcases b with b | b | b
        · omega
        · omega
        · exact wrZ_f b
      · exact wrZ_f b
  · obtain ⟨τ, hτ⟩ := h.ext
    exact ⟨τ ++ σ, by rw [hσ, hτ, List.append_assoc]⟩
  · exact any_all hJ (s := ()) h.j hst.os hst.tape hst.output hst.size (fun k hk hl => hst.block k hl (fun l q hq hp hb => by
      rcases h.lab l q hq hp with ⟨a, _⟩ | ⟨_, b⟩
      · omega
      · exact wrZ_f b))
end
section
variable {D : List Deferred} {E : Env} (hE : EnvOK E) {F : Fence} (hF : NF F) {base : Nums} {n0 B : Nat} {S0 S : Nat → Prop} {fz : List Nat} {V0 w : World} {J : World → Prop} {H H' : Mem} {Hr : List RBlk} {a : Act} {Q : Exit → Act → World → Prop} {live live' : List (Nat × AV)} {n : Nat} {ds ds' : List Bool} {wr' : Nat → Bool}
include hE hF
theorem codeF (nf : Nat) {c : Code} {st : ASt} {K : AExit → ASt → Prop} (hin : inB c = true) (h : evT E nf (.code c) st K) : ∃ e st', K e st' ∧ st'.m.wr = st.m.wr ∧ ∀ {D : List Deferred} a Hr w, RelSt E.rows D st a Hr → OwnK E.rows st.m.H Hr w → c.wpIn F 0 E.P (Rch E.rows D e st' st.m.wr Hr w) a w := by
  rcases hF with rfl | ⟨l, rfl⟩
  · obtain ⟨e, st', h1, h2, h3⟩ := ev_sound hE nf (.code c) st K h
    exact ⟨e, st', h1, h2, fun a Hr w hR hO => wpIn_wide.2 (h3 a Hr w hR hO)⟩
  · exact ev_in hE l nf c st K hin h
/-- Code, however it ends. -/
theorem it_code (hJ : AnyN n0 J) (nf : Nat) (e0 : AExit) {c : Code} (hin : inB c = true) (h : ∀ r, Is (evT E nf (.code c) ⟨pat live r 0 n, ⟨H, ds, wrZ fz⟩⟩ (chE e0 live' n H' []))) (hP : PatSt E.rows D live n ⟨H, ds', wr'⟩ a Hr) (hB : It E.rows base n0 S0 S B fz V0 J H Hr w)
    (hk : ∀ a' Hr' w', PatSt E.rows D live' n ⟨H', [], wrZ fz⟩ a' Hr' → It E.rows base n0 S0 S B fz V0 J H' Hr' w' → Q e0.real a' w') : c.wpIn F 0 E.P Q a w := by
  obtain ⟨r, hR⟩ := hP
  obtain ⟨e, st', h1, hlo, hs⟩ := codeF hE hF nf hin (h r).is
  refine wpIn_mono (hs a Hr w hR hB.own) ?_
  rintro e' a' w' ⟨rfl, Hr', hR', hO', hS⟩
  unfold chE at h1
  simp only [Prod.mk.injEq] at h1
  obtain ⟨he, hn, hl, rfl, hds⟩ := h1
  rw [eqE_eq he]
  have hP' := patSt_of (live := live) hR' hn (lives_of hl)
  exact hk a' Hr' w' hP' (hB.stp hJ hO' hS)
theorem list_soundIn {call : CallF} (hC : CallOK E call) (ops l2 : List Oper) : ∀ (l : List Oper) (st : ASt) (K : ASt → Prop), noDefer l = true → listP E call ops l st K → ∃ st', K st' ∧ st'.m.wr = st.m.wr ∧ ∀ {D : List Deferred} a Hr w, RelSt E.rows D st a Hr → OwnK E.rows st.m.H Hr w → ∀ Q : Exit → Act → World → Prop,
    (∀ a' Hr' w', RelSt E.rows D st' a' Hr' → OwnK E.rows st'.m.H Hr' w' → Stp st.m.wr Hr w Hr' w' → wpListIn F 0 E.P ops.toArray Q l2 a' w') → wpListIn F 0 E.P ops.toArray Q (l ++ l2) a w
  | [], st, K, _, h => ⟨st, h, rfl, fun a Hr w hR hO Q hq => hq a Hr w hR hO (.refl _ _ _)⟩
  | o :: r, st, K, hnd, h => by
    have hfn : ∀ f, F.fn f := by rcases hF with rfl | ⟨l, rfl⟩ <;> intro f <;> trivial
    obtain ⟨st1, st2, hk, h1, h2, h3, h4⟩ := step_sound hE hC h
    have hnd' : noDefer r = true := by
      unfold noDefer at hnd ⊢
      rw [List.all_cons, Bool.and_eq_true] at hnd; exact hnd.2
    have hdo : ∀ c, o.op ≠ .defer c := fun c hc => by
      unfold noDefer at hnd
      rw [List.all_cons, Bool.and_eq_true, hc] at hnd; cases hnd.1
    obtain ⟨st', hK, hlo, hl⟩ := list_soundIn hC ops l2 r st2 K hnd' hk
    rcases h4 with ⟨hw, hd⟩ | ⟨_, hw, rfl⟩
    · refine ⟨st', hK, hlo.trans (hd.lo.trans h2), fun a Hr w hR hO Q hq => ?_⟩
      rw [List.cons_append]
      unfold wpListIn
      rw [if_pos (hw a Hr hR)]
      refine operF hF o hdo (did_seq hd (h1 a Hr hR) (by rw [h3]; exact hO) fun a' Hr' w' hR' hO' hS => hl a' Hr' w' hR' hO' Q fun a2 Hr2 w2 hR2 hO2 hS2 => hq a2 Hr2 w2 hR2 hO2 ?_)
      rw [hd.lo, h2] at hS2
      rw [h2] at hS
      exact hS.trans hS2
    · refine ⟨st', hK, hlo.trans h2, fun a Hr w hR hO Q hq => ?_⟩
      rw [List.cons_append]
      unfold wpListIn
      rw [if_neg (by rw [hw a Hr hR]; simp)]
      obtain ⟨vs, rfl, ht, hB, hn⟩ := h1 a Hr hR
      rename_i D'
      obtain ⟨vs', e, hv⟩ := putA_rel (D := D') (v := undefA) (V := undef) ht o.dst .raw
      refine ⟨fun f _ => hfn f, hl _ Hr w ⟨vs', e, hv, hB, hn⟩ (by show OwnK E.rows st1.m.H Hr w; rw [h3]; exact hO) Q fun a2 Hr2 w2 hR2 hO2 hS2 => hq a2 Hr2 w2 hR2 hO2 ?_⟩
      have : (st1.put o.dst undefA).m.wr = st.m.wr := h2
      rw [this] at hS2
      exact hS2
/-- The first operations of a list. -/
theorem it_ops (hJ : AnyN n0 J) (nf k : Nat) {ops l : List Oper} (hnd : noDefer (l.take k) = true) (h : ∀ r, Is (listP E (callWith E (evT E nf)) ops (l.take k) ⟨pat live r 0 n, ⟨H, ds, wrZ fz⟩⟩ (chK live' n H' [] .normal)))
    (hP : PatSt E.rows D live n ⟨H, ds', wr'⟩ a Hr) (hB : It E.rows base n0 S0 S B fz V0 J H Hr w)
    (hk : ∀ a' Hr' w', PatSt E.rows D live' n ⟨H', [], wrZ fz⟩ a' Hr' → It E.rows base n0 S0 S B fz V0 J H' Hr' w' → wpListIn F 0 E.P ops.toArray Q (l.drop k) a' w') : wpListIn F 0 E.P ops.toArray Q l a w := by
  obtain ⟨r, hR⟩ := hP
  obtain ⟨st', h1, hlo, h2⟩ := list_soundIn hE hF (call_ok hE (ev_sound hE nf)) ops (l.drop k) (l.take k) _ _ hnd (h r).is
  rw [← List.take_append_drop k l]
  refine h2 a Hr w hR hB.own Q fun a' Hr' w' hR' hO' hS => ?_
  unfold chK at h1
  simp only [Prod.mk.injEq] at h1
  obtain ⟨_, hn, hl, rfl, hds⟩ := h1
  have hP' := patSt_of (live := live') hR' hn (lives_of hl)
  have := hk a' Hr' w' hP' (hB.stp hJ hO' hS)
  simpa using this
end
/-- What is called, if it is what yields. -/
def evalY (tl : List AV) : List Oper → Option (Nat × List AV × Tmp)
  | ⟨some d, .call ⟨.value g, xs, _⟩, _, _, _, none⟩ :: _ => match evO tl g, evs (evO tl) xs.toList with
    | some (.func (.yield l) []), some vs => some (l, vs, d)
    | _, _ => none
  | _ => none
/-- How a round of what is outside may end. -/
def YPost (S0 : Nat → Prop) (n0 : Nat) (Jt Jf : World → Prop) (V : World) : Ending → World → Prop := fun e W' => (e = .returned (.bool true) ∧ Jt W' ∧ Keep (fun b => S0 b ∨ n0 ≤ b) V W') ∨ (e = .returned (.bool false) ∧ Jf W' ∧ Keep (fun b => n0 ≤ b) V W')
theorem rel_forget {R : Rws} {ρ : Nums} {tl : List AV} {vs : List Value} (h : RelL R ρ tl vs) {d : Nat} {V : Value} {v : AV} (hd : vs[d]? = some V) (hv : v.val? = some V) : ∃ r, RelL noRows [] (pat [(d, v)] r 0 tl.length) vs := by
  have hlen := h.len
  have key : ∀ (vs : List Value), vs[d]? = some V → RelL noRows [] ((vs.map AV.raw).set d v) vs := by
    intro vs hd
    have hraw : ∀ vs : List Value, RelL noRows [] (vs.map AV.raw) vs := by
      intro vs
      induction vs with
      | nil => exact .nil
      | cons x vs ih => exact .cons .raw ih
    exact (hraw vs).setSame hd (Rel.of_val hv)
  have hd2 : d < vs.length := (List.getElem?_eq_some_iff.1 hd).1
  have h2 := pat_of (key vs hd) (live := [(d, v)]) (fun i u hu => by
    unfold look at hu
    cases hb : Nat.beq i d <;> simp only [hb, cond_true, cond_false] at hu
    · cases hu
    · rw [Nat.eq_of_beq_eq_true hb]; cases hu
      rw [List.getElem?_set_self (by simpa using hd2)])
  simpa [hlen] using h2
section
variable {D : List Deferred} {R : Rws} {P : Program} {F : Fence} (hF : NF F) {base : Nums} {n0 B : Nat} {S S0 : Nat → Prop} {fz : List Nat} {V0 V : World} {J Jt Jf : World → Prop} {H : Mem} {Hr : List RBlk} {a : Act} {Q : Exit → Act → World → Prop} {live : List (Nat × AV)} {n : Nat} {ds : List Bool} {wr' : Nat → Bool}
include hF
/-- A call of yield. -/
theorem it_yield {ops : Array Oper} {l : List Oper} {ly d : Nat} {avs : List AV} {args : Array Value} (hcall : ∀ r, evalY (pat live r 0 n) l = some (ly, avs, d)) (hd : d < n) (hkeys : live.all (fun p => Nat.blt p.1 n) = true) (hx : AV.plains? avs = some args.toList)
    (hSS : ∀ k, S k → S0 k ∨ n0 ≤ k) (hn0 : n0 ≤ B) (hRS : ∀ j r, R j = some r → 0 < r.n → ∀ b off, r.A = some ⟨b, off, none⟩ → S0 b)
    (hP : PatSt R D live n ⟨H, ds, wr'⟩ a Hr) (hB : It R base n0 S0 S B fz V0 J H Hr V)
    (hY : YieldAt Fence.wide 0 P ly args V (YPost S0 n0 Jt Jf V))
    (k1 : ∀ a' w', PatSt R D ((d, .bool true true) :: live) n ⟨H, [], wrZ fz⟩ a' Hr → It R base n0 S0 S B fz V0 Jt H Hr w' → wpListIn F 0 P ops Q l.tail a' w')
    (k2 : ∀ a' w', PatSt noRows D [(d, .bool true false)] n ⟨[], [], wrZ fz⟩ a' [] → It noRows [] n0 S0 (fun _ => False) B fz V0 Jf [] [] w' → wpListIn F 0 P ops Q l.tail a' w') : wpListIn F 0 P ops Q l a V := by
  obtain ⟨r, vs, rfl, ht, hBl, hnd⟩ := hP
  have h := hcall r
  unfold evalY at h
  split at h
  · rename_i dd g xs ts ty pos aft os
    split at h
    · rename_i l' us hg hvs
      simp only [Option.some.injEq, Prod.mk.injEq] at h
      obtain ⟨rfl, rfl, rfl⟩ := h
      have e1 := evO_sound (D := D) ht _ _ hg
      generalize hge : (⟨vs.toArray, D⟩ : Act).eval g = gv at e1
      cases e1 with | func hcaps =>
      cases hcaps
      have e2 := evs_sound (evO_sound (D := D) ht) hvs
      have hargs : xs.map (⟨vs.toArray, D⟩ : Act).eval = args := by
        apply Array.toList_inj.1
        rw [Array.toList_map]
        exact e2.plains hx
      have hl := ht.len
      rw [pat_len] at hl
      refine list_yield hF (l := l') (args := args) (by simp [Region.wanted]) rfl hge hargs hY fun e w' he => ?_
      rcases he with ⟨rfl, hjt, hkp⟩ | ⟨rfl, hjf, hkp⟩
      · refine ⟨_, rfl, k1 _ w' ?_ ?_⟩
        · refine patSt_of (live := live) (st := ⟨(pat live r 0 n).set dd (.bool true true), ⟨H, [], wrZ fz⟩⟩) ⟨vs.set dd (.bool true), by simp [Act.put], ht.set .bool, hBl, hnd⟩ (by simp [pat_len]) (fun i v hv => ?_)
          unfold look at hv
          cases hb' : Nat.beq i dd <;> simp only [hb', cond_true, cond_false] at hv
          · have hne : i ≠ dd := Nat.ne_of_beq_eq_false hb'
            rw [List.getElem?_set_ne (Ne.symm hne)]
            exact pat_get hv (look_lt hkeys hv)
          · rw [Nat.eq_of_beq_eq_true hb']; cases hv
            rw [List.getElem?_set_self (by rw [pat_len]; exact hd)]
        · refine ⟨⟨fun l it q g1 g2 hq => ?_, fun j rr hj b off hA h0 => ?_⟩, hB.lab, hB.n0v, hB.sv, hB.frz, hB.keep.trans (hkp.mono fun k hk => ?_), hB.ext, hjt⟩
          · obtain ⟨x1, x2⟩ := hB.own.1 l it q g1 g2 hq
            have hb : S0 q.b ∨ n0 ≤ q.b := (hB.lab l q.num (nums_get g2) hq).elim (fun h => .inr h.1) (fun h => .inl h.1)
            exact ⟨Nat.lt_of_lt_of_le x1 hkp.size, fun hv => (hkp.block q.b hb x1).trans (x2 hv)⟩
          · obtain ⟨y1, y2, y3⟩ := hB.own.2 j rr hj b off hA h0
            have hb := hkp.block b (.inl (hRS j rr hj h0 b off hA)) y2
            exact ⟨y1, Nat.lt_of_lt_of_le y2 hkp.size, fun i hi q u hu => (World.cell?_of_block (a := ⟨b, off + i * rr.s + q, none⟩) hb).trans (y3 i hi q u hu)⟩
          · rcases hk with hk | hk
            · exact hSS k hk
            · exact .inr (Nat.le_trans hn0 hk)
      · refine ⟨_, rfl, k2 _ w' ?_ ⟨⟨OwnM.nil _, rd_no _ _⟩, by simp [nums], hB.n0v, fun k hk => hk.elim, fun k hk => hk.elim, (hB.keep.mono fun k hk => .inr (hk.resolve_left id)).trans (hkp.mono fun k hk => Nat.le_trans hn0 (hk.resolve_left id)), ⟨[], rfl⟩, hjf⟩⟩
        have hset : (vs.set dd (.bool false))[dd]? = some (.bool false) := by rw [List.getElem?_set_self (by rw [hl]; exact hd)]
        obtain ⟨r2, hr2⟩ := rel_forget (ht.set (v := .bool false) (c := .bool true false) (i := dd) .bool) hset (v := .bool true false) rfl
        rw [List.length_set, pat_len] at hr2
        exact ⟨r2, vs.set dd (.bool false), by simp [Act.put], hr2, .nil, Apart.nil⟩
    · cases h
  · cases h
end
/-- The blocks that an inner range leans on. -/
def Sin (S0 : Nat → Prop) (n0 : Nat) (fz : List Nat) (Hr : List RBlk) (w : World) : Nat → Prop := fun k => k < w.heap.size ∧ (S0 k ∨ (n0 ≤ k ∧ ∀ (l : Nat) (q : Num), (nums Hr)[l]? = some q → q.ph = false → q.b = k → memN l fz = true))
def ItR (R : Rws) (S0 : Nat → Prop) (Hr : List RBlk) (w : World) (H : Mem) (J : World → Prop) (V : World) : Prop := ∃ Hr1, nums Hr1 = nums Hr ∧ RelB R (nums Hr) H Hr1 ∧ Apart H Hr1 ∧ OwnM H Hr1 V ∧ J V ∧ Keep S0 w V
theorem rd_keep {R : Rws} {nb : List Nat} {S0 : Nat → Prop} {w V : World} (hr : Rd R nb w) (hk : Keep S0 w V) (hRS : ∀ j r, R j = some r → 0 < r.n → ∀ b off, r.A = some ⟨b, off, none⟩ → S0 b) : Rd R nb V := fun j rr hj b off hA h0 => by
  obtain ⟨y1, y2, y3⟩ := hr j rr hj b off hA h0
  have hb := hk.block b (hRS j rr hj h0 b off hA) y2
  exact ⟨y1, Nat.lt_of_lt_of_le y2 hk.size, fun i hi q u hu => (World.cell?_of_block (a := ⟨b, off + i * rr.s + q, none⟩) hb).trans (y3 i hi q u hu)⟩
theorem itR_any {R : Rws} {S0 : Nat → Prop} {n0 : Nat} {H0 : Mem} {Hr : List RBlk} {w : World} (hO : OwnM H0 Hr w) (hl0 : Hr.length = H0.length) (hn0 : n0 ≤ w.heap.size) {Hk : Nat → Mem} {J : Nat → World → Prop} (hJ : AnyFrom n0 J) (hS0 : ∀ k, S0 k → k < w.heap.size) : AnyFrom w.heap.size (fun k V => ItR R S0 Hr w (Hk k) (J k) V) := by
  rintro k V V' row ⟨Hr1, h1, h2, h3, h4, h5, h6⟩ hg hr
  refine ⟨Hr1, h1, h2, h3, fun l it q g1 g2 hq => ?_, hJ k V V' row h5 hg (fun r e => Nat.le_trans hn0 (hr r e)), any_keep (β := Unit) (fun k hk => .inl (hS0 k hk)) () V V' row h6 hg hr⟩
  obtain ⟨x1, x2⟩ := h4 l it q g1 g2 hq
  have hn : (nums Hr)[l]? = some q.num := by rw [← h1]; exact nums_get g2
  have hlt : q.b < w.heap.size := nums_lt hO hl0 hn hq
  refine ⟨Nat.lt_of_lt_of_le x1 hg.size, fun hv => ?_⟩
  rw [hg.block q.b x1 fun e => by have := hr _ e.symm; omega]
  exact x2 hv
/-- The end of a round. -/
theorem it_end {R : Rws} {D : List Deferred} {live : List (Nat × AV)} {n n0 : Nat} {H2 Hn : Mem} {ds : List Bool} {wr : Nat → Bool} {a : Act} {Hr Hr2 : List RBlk} {S0 : Nat → Prop} {fz fz2 : List Nat} {w V V3 : World} {J' : World → Prop} (hP : PatSt R D live n ⟨H2, ds, wr⟩ a Hr2) (hB : It R (nums Hr) n0 S0 (Sin S0 n0 fz Hr w) w.heap.size fz2 V J' H2 Hr2 V3) (hkw : Keep S0 w V) (hS0 : ∀ k, S0 k → k < w.heap.size)
    (htake : H2.take Hr.length = Hn) (hbd : bddH Hr.length (H2.take Hr.length) = true) : Keep (fun b => Sin S0 n0 fz Hr w b ∨ w.heap.size ≤ b) V V3 ∧ ItR R S0 Hr w Hn J' V3 := by
  obtain ⟨r, vs, rfl, ht, hBl, hnd⟩ := hP
  obtain ⟨σ, hσ⟩ := hB.ext
  have hHr0 : (nums Hr).length = Hr.length := by simp [nums]
  have hnt : nums (Hr2.take Hr.length) = nums Hr := by
    have : nums (Hr2.take Hr.length) = (nums Hr2).take Hr.length := by simp [nums, List.map_take]
    rw [this, hσ, ← hHr0, List.take_left]
  subst htake
  refine ⟨hB.keep, Hr2.take Hr.length, hnt, ?_, ?_, ?_, hB.j, hkw.trans (hB.keep.mono fun k hk => .inl ⟨hS0 k hk, .inl hk⟩)⟩
  · rw [hσ] at hBl
    have hsh := hBl.take Hr.length
    rw [← hHr0] at hsh hbd ⊢
    exact RelB.shrink hbd hsh
  · intro k l jt kt x y hne h1 h2 v1 v2 q1 q2 z1 z2 hb
    rw [List.getElem?_take] at h1 h2 q1 q2
    split at h1
    · split at h2
      · rename_i c1 c2
        rw [if_pos c1] at q1; rw [if_pos c2] at q2
        exact hnd k l jt kt x y hne h1 h2 v1 v2 q1 q2 z1 z2 hb
      · cases h2
    · cases h1
  · intro l jt x h1 q1 hxp
    rw [List.getElem?_take] at h1 q1
    split at h1
    · rename_i c1
      rw [if_pos c1] at q1
      exact hB.own.1 l jt x h1 q1 hxp
    · cases h1
section
variable {D : List Deferred} {E : Env} (hE : EnvOK E)
include hE
/-- A range over a function, in a function that is ranged over itself: each round may yield. -/
theorem it_each (nf : Nat) {α : Type} {xs : List α} {encs : Nat → α → Array Value} {g : Operand} {ps : Array Tmp} {assign body : Code} {gf : Nat} {caps : List AV} {live : List (Nat × AV)} {n : Nat} {H : Mem} {wr' : Nat → Bool} {a : Act} {Hr : List RBlk} {w W0 : World} {base : Nums} {n0 : Nat} {S0 : Nat → Prop} {Q : Exit → Act → World → Prop}
    (hgf : ∀ r, evO (pat live r 0 n) g = some (.func (.func gf) caps)) (eg : Enters E.P gf) (hin : inB assign = true) (fz0 fz fz2 : List Nat)
    (hseq : ∀ lb, RelL E.rows (nums Hr) caps lb → Seq E.P gf lb.toArray encs xs (Sin S0 n0 fz Hr w) w)
    (xA : Nat → α → List AV) (hx : ∀ k x, xs[k]? = some x → AV.plains? (xA k x) = some (encs k x).toList) (hps : ∀ k x, (encs k x).size = ps.size)
    (Hk : Nat → Mem) (h0 : Hk 0 = H) (hlen : ∀ k, (Hk k).length = H.length)
    (J : Nat → World → Prop) (hJ : AnyFrom n0 J) (Jx : World → Prop) (hJx : AnyN n0 Jx) (cx : Code)
    (live1 : Nat → α → List (Nat × AV)) (H1 : Nat → α → Mem) (hf1 : ∀ l, memN l fz = true → memN l fz2 = true) (hf2 : ∀ k x l, H.length ≤ l → l < (H1 k x).length → memN l fz2 = true)
    (hassign : ∀ k x r, xs[k]? = some x → Is (evT E nf (.code assign) ⟨setps (pat live r 0 n) ps.toList (xA k x), ⟨Hk k, [], wrZ fz⟩⟩ (chE .normal (live1 k x) n (H1 k x) []))) (hnm : ∀ k x, noMap ((H1 k x).drop H.length) = true)
    (hbody : ∀ l' k x V a1 Hr1, xs[k]? = some x → PatSt E.rows [] (live1 k x) n ⟨H1 k x, [], wrZ fz2⟩ a1 Hr1 → It E.rows (nums Hr) n0 S0 (Sin S0 n0 fz Hr w) w.heap.size fz2 V (J k) (H1 k x) Hr1 V → Keep S0 w V →
      body.wpIn (Fence.wide.inRound l') 0 E.P (eachPost w.heap.size (Sin S0 n0 fz Hr w) (fun k V => ItR E.rows S0 Hr w (Hk k) (J k) V) (fun c _ V => c = cx ∧ Jx V) (k + 1) V) a1 V)
    (hP : PatSt E.rows D live n ⟨H, [], wr'⟩ a Hr) (hB : It E.rows base n0 S0 S0 n0 fz0 W0 (J 0) H Hr w) (hf0 : ∀ l, memN l fz0 = true → memN l fz = true) (hS0 : ∀ k, S0 k → k < n0) (hRS : ∀ j r, E.rows j = some r → 0 < r.n → ∀ b off, r.A = some ⟨b, off, none⟩ → S0 b)
    (hdone : ∀ W', J xs.length W' → W'.heap[w.heap.size]? = some (.deferred (some [])) → Q .normal { a with defers := { target := .collected w.heap.size, args := #[] } :: a.defers } W')
    (hstop : ∀ W', Jx W' → W'.heap[w.heap.size]? = some (.deferred (some [])) → cx.wp E.P Q { a with defers := { target := .collected w.heap.size, args := #[] } :: a.defers } W') :
    (Code.rangeFunc g ps assign body).wp E.P Q a w := by
  have hn0 : n0 ≤ w.heap.size := by have := hB.n0v; have := hB.keep.size; omega
  have hS0w : ∀ k, S0 k → k < w.heap.size := fun k hk => by have := hS0 k hk; omega
  obtain ⟨r, vs, rfl, ht, hBl, hnd⟩ := hP
  have hbl := hBl.len
  have hHr0 : (nums Hr).length = H.length := by rw [← hbl]; simp [nums]
  have hfl := evO_sound (D := D) ht _ _ (hgf r)
  generalize hge : (⟨vs.toArray, D⟩ : Act).eval g = gv at hfl
  cases hfl with | func hcaps =>
  rename_i lb
  have hlab0 : ∀ (l : Nat) (q : Num), (nums Hr)[l]? = some q → q.ph = false → (n0 ≤ q.b ∨ (S0 q.b ∧ memN l fz = true)) ∧ q.b < w.heap.size := fun l q hq hp => ⟨(hB.lab l q hq hp).imp (·.1) (fun h => ⟨h.1, hf0 l h.2⟩), nums_lt hB.own.1 hBl.len hq hp⟩
  refine wp_each (w0 := w) (xs := xs) (encs := encs) (S := Sin S0 n0 fz Hr w) hge (fun args w => eg args w) (hseq lb hcaps) (fun k hk => hk.1) (Keep.refl _ _) hps
    (fun k V => ItR E.rows S0 Hr w (Hk k) (J k) V) (fun c _ V => c = cx ∧ Jx V) (itR_any hB.own.1 hBl.len hn0 hJ hS0w) (fun c k V V' row ⟨h1, h2⟩ hg hr => ⟨h1, hJx () V V' row h2 hg (fun r e => Nat.le_trans hn0 (hr r e))⟩)
    ⟨Hr, rfl, by rw [h0]; exact hBl, by rw [h0]; exact hnd, by rw [h0]; exact hB.own.1, hB.j, Keep.refl _ _⟩ ?round (fun W' ⟨_, _, _, _, _, hj, _⟩ hm => hdone W' hj hm) (fun c k W' _ ⟨hc, hj⟩ hm => by subst hc; exact hstop W' hj hm)
  rintro l k x V hxk ⟨Hr1, hn1, hrel, hap, hown, hj, hkw⟩ hl
  have hRdV : Rd E.rows (bs (nums Hr)) V := rd_keep hB.own.2 hkw hRS
  have hOK : OwnK E.rows (Hk k) Hr1 V := ⟨hown, by rw [hn1]; exact hRdV⟩
  have hR0 : RelSt E.rows [] ⟨setps (pat live r 0 n) ps.toList (xA k x), ⟨Hk k, [], wrZ fz⟩⟩ { tmps := (ps.zip (encs k x)).foldl (fun (t : Array Value) (x : Tmp × Value) => t.setIfInBounds x.1 x.2) vs.toArray, defers := [] } Hr1 := by
    refine ⟨setvs vs ps.toList (encs k x).toList, ?_, ?_, ?_, hap⟩
    · have := setvs_act ps.toList (encs k x).toList vs
      rw [Array.toArray_toList, Array.toArray_toList] at this
      rw [this]
    · rw [hn1]; exact setps_rel ht (RelL.of_plains (hx k x hxk))
    · rw [hn1]; exact hrel
  have hIt0 : It E.rows (nums Hr) n0 S0 (Sin S0 n0 fz Hr w) w.heap.size fz V (J k) (Hk k) Hr1 V := by
    refine ⟨hOK, fun l q hq hp => ?_, Nat.le_trans hn0 hkw.size, fun k hk => Nat.lt_of_lt_of_le hk.1 hkw.size, fun k hk l q hq hp hb => ?_, Keep.refl _ _, ⟨[], by rw [hn1]; simp⟩, hj⟩
    · rw [hn1] at hq
      obtain ⟨x1, x2⟩ := hlab0 l q hq hp
      exact x1.imp (fun h => ⟨h, .inl x2⟩) id
    · rw [hn1] at hq
      rcases hk.2 with hk | hk
      · rcases (hlab0 l q hq hp).1 with h | h
        · have := hS0 k hk; omega
        · exact h.2
      · exact hk.2 l q hq hp hb
  have hJk : AnyN n0 (J k) := fun _ V V' row h hg hr => hJ k V V' row h hg hr
  obtain ⟨e, st1, hk1, hwr1, hs1⟩ := ev_in hE l nf assign _ _ hin (hassign k x r hxk).is
  refine wpIn_mono (hs1 _ Hr1 V hR0 hOK) ?_
  rintro e' a1 V1 ⟨rfl, Hr2, hR2, hO2, hS2⟩
  unfold chE at hk1
  simp only [Prod.mk.injEq] at hk1
  obtain ⟨he, hn, hlv, hH, hds⟩ := hk1
  rw [eqE_eq he]
  have hIt1 := hIt0.stp hJk hO2 hS2
  have hP1 := patSt_of (live := live) hR2 hn (lives_of hlv)
  have hBl2 : RelB E.rows (nums Hr2) st1.m.H Hr2 := by obtain ⟨_, _, _, hb, _⟩ := hR2; exact hb
  obtain ⟨σ, hσ⟩ := hIt1.ext
  have hH2 : (nums Hr2).length = st1.m.H.length := by rw [← hBl2.len]; simp [nums]
  refine ⟨hIt1.keep, fun V2 => OwnM st1.m.H Hr2 V2 ∧ J k V2 ∧ Keep S0 w V2, ?_, ⟨hO2.1, hIt1.j, hkw.trans (hIt1.keep.mono fun k hk => .inl ⟨hS0w k hk, .inl hk⟩)⟩, ?_⟩
  · intro u W W' row ⟨ho, hjj, hkk⟩ hg hr
    refine ⟨fun l it q g1 g2 hq => ?_, hJ k W W' row hjj hg (fun r e => Nat.le_trans hn0 (hr r e).1), any_keep (β := Unit) (fun k hk => .inl (hS0w k hk)) () W W' row hkk hg (fun r e => (hr r e).1)⟩
    obtain ⟨x1, x2⟩ := ho l it q g1 g2 hq
    refine ⟨Nat.lt_of_lt_of_le x1 hg.size, fun hv => ?_⟩
    rw [hg.block q.b x1 fun e => by
      obtain ⟨hge', o, ho1, ho2⟩ := hr _ e.symm
      rw [x2 hv] at ho1
      cases ho1
      have hrel := hBl2.2 l it q g1 g2
      have g4 := nums_get g2
      have hqn : q.num.b = q.b := rfl
      have hq' := hq
      generalize q.num = qn at g4 hqn hq'
      cases hrel with
      | cells _ _ => simp [Obj.isCells] at ho2
      | row _ _ _ _ _ => simp [Obj.isCells] at ho2
      | row0 h0 => rw [h0] at hq; cases hq
      | map _ _ =>
        rcases Nat.lt_or_ge l H.length with hlt | hge2
        · rw [hσ, List.getElem?_append_left (by rw [hHr0]; exact hlt)] at g4
          have := (hlab0 l qn g4 hq').2
          simp only at hqn hge'
          omega
        · have hnm' := hnm k x
          rw [← hH] at hnm'
          exact noMap_get hnm' (l := l - H.length) (by rw [List.getElem?_drop, Nat.add_sub_cancel' hge2]; exact g1)
      | gone => cases hv]
    exact x2 hv
  · rintro V2 ⟨ho, hjj, hkk⟩
    refine hbody l k x V2 a1 Hr2 hxk (by rw [← hH]; exact hP1) ?_ hkk
    rw [← hH]
    refine ⟨⟨ho, ?_⟩, fun l q hq hp => ?_, Nat.le_trans hn0 hkk.size, fun k hk => Nat.lt_of_lt_of_le hk.1 hkk.size, fun k hk l q hq hp hb => ?_, Keep.refl _ _, ⟨σ, hσ⟩, hjj⟩
    · intro j rr hj b off hA h0
      obtain ⟨y1, _, _⟩ := hO2.2 j rr hj b off hA h0
      obtain ⟨_, z2, z3⟩ := rd_keep hB.own.2 hkk hRS j rr hj b off hA h0
      exact ⟨y1, z2, z3⟩
    · refine (hIt1.lab l q hq hp).imp (fun h => ⟨h.1, ?_⟩) (fun h => ⟨h.1, hf1 l h.2⟩)
      rcases Nat.lt_or_ge l H.length with hlt | hge
      · rw [hσ, List.getElem?_append_left (by rw [hHr0]; exact hlt)] at hq
        exact .inl (hlab0 l q hq hp).2
      · exact .inr (.inr (hf2 k x l hge (by rw [← hH, ← hH2]; exact (List.getElem?_eq_some_iff.1 hq).1)))
    · exact hf1 l (hIt1.frz k hk l q hq hp hb)
end
/-- The way in. -/
theorem it_enter {R : Rws} {P : Program} {f : FuncId} {fn : Func} {c : Code} (hf : P.funcs[f]? = some fn) (hb : fn.body = some c) {l : Nat} {caps : List AV} {lb : List Value} (hn : caps.length + 1 ≤ fn.ntmps) {Hr : List RBlk} {H : Mem} {W : World} {S0 : Nat → Prop} {fz : List Nat} {J : World → Prop} {Q : Ending → World → Prop} (ha : RelL R (nums Hr) caps lb) (hBl : RelB R (nums Hr) H Hr) (hA : Apart H Hr) (hO : OwnM H Hr W) (hRd : Rd R (bs (nums Hr)) W)
    (hlab : ∀ (l : Nat) (q : Num), (nums Hr)[l]? = some q → q.ph = false → S0 q.b ∧ memN l fz = true) (hS0 : ∀ k, S0 k → k < W.heap.size) (hj : J W)
    (h : ∀ a, a.defers = [] → PatSt R [] (inLive 0 (AV.func (.yield l) [] :: caps)) fn.ntmps ⟨H, [], wrZ fz⟩ a Hr → It R (nums Hr) W.heap.size S0 S0 W.heap.size fz W J H Hr W → c.wp P (bodyPostM Fence.wide 0 P fn Q) a W) : Calls P f (#[.func (.yield l) #[] #[]] ++ lb.toArray) W Q := by
  refine calls_marks hf hb (h _ rfl ?_ ⟨⟨hO, hRd⟩, fun l q hq hp => .inr (hlab l q hq hp), Nat.le_refl _, hS0, fun k hk l q hq hp _ => (hlab l q hq hp).2, Keep.refl _ _, ⟨[], by simp⟩, hj⟩)
  have hl := ha.len
  have hR : RelSt R [] ⟨(AV.func (.yield l) [] :: caps) ++ List.replicate (fn.ntmps - (caps.length + 1)) undefA, ⟨H, [], wrZ fz⟩⟩ ⟨(#[Value.func (.yield l) #[] #[]] ++ lb.toArray) ++ Array.replicate (fn.ntmps - (#[Value.func (.yield l) #[] #[]] ++ lb.toArray).size) undef, []⟩ Hr := by
    refine ⟨(Value.func (.yield l) #[] #[] :: lb) ++ List.replicate (fn.ntmps - (caps.length + 1)) undef, ?_, RelL.append (RelL.cons (Rel.func (vs := []) .nil) ha) (RelL.rep .raw _), hBl, hA⟩
    congr 1
    apply Array.toList_inj.1
    simp [hl, Nat.add_comm]
  exact patSt_of (live := []) hR (by simp; omega) (fun i v hv => by
    obtain ⟨_, h2⟩ := look_in hv
    simp only [Nat.sub_zero] at h2
    rw [List.getElem?_append_left (List.getElem?_eq_some_iff.1 h2).1]; exact h2)
/-- A call of yield, as the outer range tells it. -/
theorem yield_at {P : Program} {l k : Nat} {args : Array Value} {V : World} {S S0 : Nat → Prop} {n0 : Nat} {J Jx : Nat → World → Prop} (h : YieldAt Fence.wide 0 P l args V fun e W' => (e = .returned (.bool true) ∧ J (k + 1) W' ∧ Keep (fun b => S b ∨ n0 ≤ b) V W') ∨ (e = .returned (.bool false) ∧ Jx (k + 1) W' ∧ Keep (fun b => n0 ≤ b) V W')) (hS : ∀ b, S0 b → S b) : YieldAt Fence.wide 0 P l args V (YPost S0 n0 (J (k + 1)) (Jx (k + 1)) V) := by
  obtain ⟨fn, tmps, assign, body, h1, h2⟩ := h
  refine ⟨fn, tmps, assign, body, h1, h2.mono fun e W' he => ?_⟩
  rcases he with ⟨a, b, c⟩ | he
  · exact .inl ⟨a, b, c.mono fun q hq => hq.imp (hS q) id⟩
  · exact .inr he
def isSc : Code → Bool
  | .scope _ => true
  | _ => false
def scB : Code → Code
  | .scope c => c
  | c => c
def isRf : Code → Bool
  | .rangeFunc _ _ _ _ => true
  | _ => false
def rfG : Code → Operand
  | .rangeFunc g _ _ _ => g
  | _ => .const undef
def rfP : Code → Array Tmp
  | .rangeFunc _ p _ _ => p
  | _ => #[]
def rfA : Code → Code
  | .rangeFunc _ _ a _ => a
  | c => c
def rfB : Code → Code
  | .rangeFunc _ _ _ b => b
  | c => c
def isDr : Code → Bool
  | .region _ _ true => true
  | _ => false
def isLs : Code → Bool
  | .region _ _ false => true
  | _ => false
def rgOps : Code → List Oper
  | .region _ ops _ => ops.toList
  | _ => []
section
variable {P : Program} {F : Fence} {c : Code} {Q : Exit → Act → World → Prop} {a : Act} {w : World}
theorem wp_sc (hc : isSc c = true) (h : (scB c).wp P (Exit.noGoto Q) a w) : c.wp P Q a w := by
  cases c <;> first | exact wp_scope_straight h | cases hc
theorem in_parts (hc : isSq c = true) (h : (sL c).wpIn F 0 P (Exit.then ((sR c).wpIn F 0 P Q) Q) a w) : c.wpIn F 0 P Q a w := by
  cases c <;> first | exact wpIn_seq h | cases hc
theorem in_bk (hc : isBk c = true) (h : (bkB c).wpIn F 0 P (Exit.inBlock (bkI c) Q) a w) : c.wpIn F 0 P Q a w := by
  cases c <;> first | exact wpIn_block h | cases hc
theorem in_ls (hc : isLs c = true) (h : wpListIn F 0 P (rgOps c).toArray Q (rgOps c) a w) : c.wpIn F 0 P Q a w := by
  cases c <;> try cases hc
  rename_i id ops d
  cases d
  · exact wpIn_region_list (by simpa [rgOps] using h)
  · cases hc
theorem wp_in (h : c.wpIn Fence.wide 0 P Q a w) : c.wp P Q a w := (wpIn_wide (n := 0)).1 h
theorem in_nil (h : Q .normal a w) {ops : Array Oper} : wpListIn F 0 P ops Q [] a w := h
end
theorem rf_eq {c : Code} (hc : isRf c = true) : c = .rangeFunc (rfG c) (rfP c) (rfA c) (rfB c) := by
  cases c <;> first | rfl | cases hc
end Go.Proofs.Ytcfomhnfhalmaaa
end

section
set_option linter.unusedVariables false
set_option linter.unusedSimpArgs false
namespace Go.Proofs.Ytcfomhnfhalmaaa
open Go.RowKit
attribute [local go_sem] Oper.semAt_some
abbrev bvEnc (n : Nat) : Nat → V5 → Array Value := fun k x => #[.int .i64 ((n : Int) - 1 - (k : Int)), .agg #[.int .u64 (x.a.toNat : Int), .int .u64 (x.b.toNat : Int), .int .u64 (x.c.toNat : Int), .int .u64 (x.d.toNat : Int), .int .u64 (x.l.toNat : Int)]]
def BvRel (J : Nat → World → Prop) (n : Nat) (S : Nat → Prop) (w0 : World) (i : Value) (wr : World) : Prop := ∃ k : Nat, k ≤ n ∧ i = .int .i64 ((n : Int) - 1 - (k : Int)) ∧ J k wr ∧ Keep S w0 wr
theorem revV_at {α : Type} {xs : List α} {n k m : Nat} (hl : xs.length = n) (h : m + k + 1 = n) : xs.reverse[k]? = xs[m]? := by
  rw [List.getElem?_reverse (by omega), hl, show n - 1 - k = m by omega]
set_option maxHeartbeats 4000000 in
set_option maxRecDepth 20000 in
theorem backV_seq (b : Nat) (A : Option Addr) (xs : List V5) (cap : Nat) (w0 : World) (S : Nat → Prop) (hc : w0.cell? ⟨b, 0, none⟩ = some (.slice A xs.length cap)) (hS : SlAt w0 A (xs.flatMap v5V)) (hcap : xs.length ≤ cap) (hn : xs.length ≤ 100000) (hb : S b) (hA : xs.flatMap v5V ≠ [] → ∀ b' off, A = some ⟨b', off, none⟩ → S b') :
    Seq Try.prog 93 #[.pointer (some ⟨b, 0, none⟩)] (bvEnc xs.length) xs.reverse S w0 := by
  intro l J Jx W hW hJ hJx hY h0
  have hcW : W.cell? ⟨b, 0, none⟩ = some (.slice A xs.length cap) := hW.cell hc hb
  have HC := Lib.hid hc
  have HS := Lib.hid hS
  have HY := Lib.hid hY
  have HJ := Lib.hid hJ
  have HX := Lib.hid hJx
  have HREV := Lib.hid (fun k m (h : m + k + 1 = xs.length) => revV_at (xs := xs) rfl h)
  have HRL := Lib.hid (show xs.reverse.length = xs.length by simp)
  clear hY hJ hJx hS hc
  generalize hln : xs.length = n at *
  refine (callsIn_wide (n := 0)).1 (callsIn_of_wp Try.func93 rfl trivial ?_ rfl)
  simp only [Try.ntmps93, List.size_toArray, List.length_cons, List.length_nil, Nat.reduceAdd, Nat.reduceSub, Array.replicate_succ, Array.replicate_zero, List.push_toArray, List.append_toArray, List.nil_append, List.cons_append]
  gi_wp2
  gi_loopw [3] (fun i wr => BvRel J n S w0 i wr) (fun i _ => (intOf i + 1).toNat)
  case atStart => exact ⟨0, Nat.zero_le _, by simp, h0, hW⟩
  case round =>
    obtain ⟨k, hk, rfl, hj, hkp⟩ := hrel
    clear hcW
    have hcr := hkp.cell HC.out hb
    by_cases hlt' : k < n
    · obtain ⟨m, hm⟩ : ∃ m, m + k + 1 = n := ⟨n - 1 - k, by omega⟩
      have hmi : ((n : Int) - 1 - (k : Int)) = (m : Int) := by omega
      obtain ⟨x, hx⟩ : ∃ x, xs[m]? = some x := ⟨xs[m]'(by omega), by simp⟩
      have hxr : xs.reverse[k]? = some x := (HREV.out k m hm).trans hx
      have hne : (xs.flatMap v5V)[m * 5 + 0]? = some (.int .u64 (x.a.toNat : Int)) := (by rw [flat_at (f := v5V) (n := 5) (fun _ => rfl) xs m x hx 0 (by omega)]; rfl)
      obtain ⟨b', off, rfl, hbl, hcell⟩ := HS.out.cell hne
      have hAb : S b' := hA (by intro h; rw [h] at hne; simp at hne) _ _ rfl
      have hc0 : wr.cell? ⟨b', off + m * 5, none⟩ = some (.int .u64 (x.a.toNat : Int)) := hkp.cell (by have := hcell (m * 5 + 0) _ (by rw [flat_at (f := v5V) (n := 5) (fun _ => rfl) xs m x hx 0 (by omega)]; rfl); simpa [Nat.add_assoc] using this) hAb
      have hc1 : wr.cell? ⟨b', off + m * 5 + 1, none⟩ = some (.int .u64 (x.b.toNat : Int)) := hkp.cell (by have := hcell (m * 5 + 1) _ (by rw [flat_at (f := v5V) (n := 5) (fun _ => rfl) xs m x hx 1 (by omega)]; rfl); simpa [Nat.add_assoc] using this) hAb
      have hc2 : wr.cell? ⟨b', off + m * 5 + 2, none⟩ = some (.int .u64 (x.c.toNat : Int)) := hkp.cell (by have := hcell (m * 5 + 2) _ (by rw [flat_at (f := v5V) (n := 5) (fun _ => rfl) xs m x hx 2 (by omega)]; rfl); simpa [Nat.add_assoc] using this) hAb
      have hc3 : wr.cell? ⟨b', off + m * 5 + 3, none⟩ = some (.int .u64 (x.d.toNat : Int)) := hkp.cell (by have := hcell (m * 5 + 3) _ (by rw [flat_at (f := v5V) (n := 5) (fun _ => rfl) xs m x hx 3 (by omega)]; rfl); simpa [Nat.add_assoc] using this) hAb
      have hc4 : wr.cell? ⟨b', off + m * 5 + 4, none⟩ = some (.int .u64 (x.l.toNat : Int)) := hkp.cell (by have := hcell (m * 5 + 4) _ (by rw [flat_at (f := v5V) (n := 5) (fun _ => rfl) xs m x hx 4 (by omega)]; rfl); simpa [Nat.add_assoc] using this) hAb
      obtain ⟨fn, tmps, assign, body, hy, hR⟩ := HY.out k x _ hxr hj
      try simp only [bvEnc] at hy
      have hd1 : decide ((0 : Int) ≤ (m : Int)) = true := by simp
      rw [hmi] at hy ⊢
      have hdm : decide ((n : Int) ≤ (m : Int)) = false := by simp; omega
      clear hcell hj hne
      gi_wp2
      refine ⟨rfl, ?_⟩
      refine hR.mono ?_
      rintro e W' (⟨rfl, hJ', hk'⟩ | ⟨rfl, hJx', _⟩)
      · have hb3 := hkp.trans (hk'.mono (fun _ h => .inl h))
        clear hk' hc0 hc1 hc2 hc3 hc4 hy hR hkp hcr
        gi_wp2
        exact ⟨⟨k + 1, by omega, congrArg (Value.int .i64) (by omega), hJ', hb3⟩, by simp only [intOf]; omega⟩
      · clear hc0 hc1 hc2 hc3 hc4 hy hR hkp hcr
        gi_wp2
        refine bodyPost_ret (results_none rfl _ _ _) rfl ?_
        exact ⟨⟨_, rfl⟩, .inr ⟨k + 1, by rw [HRL.out]; omega, hJx'⟩⟩
    · obtain rfl : k = n := by omega
      have hd1 : decide ((0 : Int) ≤ (k : Int) - 1 - (k : Int)) = false := by simp; omega
      gi_wp2
      go_end0
      exact ⟨⟨_, rfl⟩, .inl (by rw [HRL.out]; exact hj)⟩
end Go.Proofs.Ytcfomhnfhalmaaa
end

section
set_option linter.unusedVariables false
set_option linter.unusedSimpArgs false
set_option maxRecDepth 100000
namespace Go.Proofs.Ytcfomhnfhalmaaa
open Go.RowKit
abbrev tpEnc : Nat → V5 → Array Value := fun k x => #[.int .i64 (k : Int), .agg (v5V x).toArray]
theorem tp_0 (l : Nat) (L : List V5) (t0 : TypeId) : ∀ r, Is (evT (mkEnv noRows []) 60 (.code (sL (Try.f75.body.getD .skip))) ⟨pat (inLive 0 [.func (.yield l) [], .ptr 0 0]) r 0 Try.f75.ntmps, ⟨([.cells [.gsl .any 1 0 L.length] t0, .row L.length 5 (F5 L) cvE none] : Mem), [], wrZ [0, 1]⟩⟩ (chE .normal [(1, .ptr 0 0), (2, .ptr 2 0)] Try.f75.ntmps ([.cells [.gsl .any 1 0 L.length] t0, .row L.length 5 (F5 L) cvE none, .cells [.func (.yield l) []] 120] : Mem) [])) := fun r => ev_eq [] (true, Try.f75.ntmps, ([(1, .ptr 0 0), (2, .ptr 2 0)] : List (Nat × AV)).map (fun p => some p.2), (([.cells [.gsl .any 1 0 L.length] t0, .row L.length 5 (F5 L) cvE none, .cells [.func (.yield l) []] 120] : Mem) : Mem), ([] : List Bool)) (by kernel_rfl) trivial
theorem tp_1 (l : Nat) (L : List V5) (t0 : TypeId) : ∀ r, Is (evT (mkEnv noRows []) 60 (.code (sL (scB (sR (Try.f75.body.getD .skip))))) ⟨pat [(1, .ptr 0 0), (2, .ptr 2 0)] r 0 Try.f75.ntmps, ⟨([.cells [.gsl .any 1 0 L.length] t0, .row L.length 5 (F5 L) cvE none, .cells [.func (.yield l) []] 120] : Mem), [], wrZ [0, 1]⟩⟩ (chE .normal [(1, .ptr 0 0), (2, .ptr 2 0)] Try.f75.ntmps ([.cells [.gsl .any 1 0 L.length] t0, .row L.length 5 (F5 L) cvE none, .cells [.func (.yield l) []] 120] : Mem) [])) := fun r => ev_eq [] (true, Try.f75.ntmps, ([(1, .ptr 0 0), (2, .ptr 2 0)] : List (Nat × AV)).map (fun p => some p.2), (([.cells [.gsl .any 1 0 L.length] t0, .row L.length 5 (F5 L) cvE none, .cells [.func (.yield l) []] 120] : Mem) : Mem), ([] : List Bool)) (by kernel_rfl) trivial
theorem tp_2 (l : Nat) (L : List V5) (t0 : TypeId) : ∀ r, Is (evT (mkEnv noRows []) 60 (.code (sL (sR (scB (sR (Try.f75.body.getD .skip)))))) ⟨pat [(1, .ptr 0 0), (2, .ptr 2 0)] r 0 Try.f75.ntmps, ⟨([.cells [.gsl .any 1 0 L.length] t0, .row L.length 5 (F5 L) cvE none, .cells [.func (.yield l) []] 120] : Mem), [], wrZ [0, 1]⟩⟩ (chE .normal [(1, .ptr 0 0), (2, .ptr 2 0), (6, .func (.func 93) [.ptr 3 0])] Try.f75.ntmps ([.cells [.gsl .any 1 0 L.length] t0, .row L.length 5 (F5 L) cvE none, .cells [.func (.yield l) []] 120, .cells [.gsl .any 1 0 L.length] 27] : Mem) [])) := fun r => ev_eq [] (true, Try.f75.ntmps, ([(1, .ptr 0 0), (2, .ptr 2 0), (6, .func (.func 93) [.ptr 3 0])] : List (Nat × AV)).map (fun p => some p.2), (([.cells [.gsl .any 1 0 L.length] t0, .row L.length 5 (F5 L) cvE none, .cells [.func (.yield l) []] 120, .cells [.gsl .any 1 0 L.length] 27] : Mem) : Mem), ([] : List Bool)) (by kernel_rfl) trivial
noncomputable def tpOps : List Oper := rgOps (sL (bkB (rfB (bkB (sR (sR (scB (sR (Try.f75.body.getD .skip)))))))))
theorem tp_as (l : Nat) (L : List V5) (t0 : TypeId) (x : V5) (k : Nat) : ∀ r, Is (evT (mkEnv noRows []) 60 (.code (rfA (bkB (sR (sR (scB (sR (Try.f75.body.getD .skip)))))))) ⟨setps (pat [(1, .ptr 0 0), (2, .ptr 2 0), (6, .func (.func 93) [.ptr 3 0])] r 0 Try.f75.ntmps) (rfP (bkB (sR (sR (scB (sR (Try.f75.body.getD .skip))))))).toList [AV.int .i64 false ((L.length : Int) - 1 - (k : Int)), .agg (v5 x)], ⟨([.cells [.gsl .any 1 0 L.length] t0, .row L.length 5 (F5 L) cvE none, .cells [.func (.yield l) []] 120, .cells [.gsl .any 1 0 L.length] 27] : Mem), [], wrZ [0, 1, 3]⟩⟩ (chE .normal [(1, .ptr 0 0), (2, .ptr 2 0), (3, AV.int .i64 false ((L.length : Int) - 1 - (k : Int))), (4, .ptr 4 0)] Try.f75.ntmps ([.cells [.gsl .any 1 0 L.length] t0, .row L.length 5 (F5 L) cvE none, .cells [.func (.yield l) []] 120, .cells [.gsl .any 1 0 L.length] 27, .cells (v5 x) 35] : Mem) [])) := fun r => ev_eq [] (true, Try.f75.ntmps, ([(1, .ptr 0 0), (2, .ptr 2 0), (3, AV.int .i64 false ((L.length : Int) - 1 - (k : Int))), (4, .ptr 4 0)] : List (Nat × AV)).map (fun p => some p.2), (([.cells [.gsl .any 1 0 L.length] t0, .row L.length 5 (F5 L) cvE none, .cells [.func (.yield l) []] 120, .cells [.gsl .any 1 0 L.length] 27, .cells (v5 x) 35] : Mem) : Mem), ([] : List Bool)) (by kernel_rfl) trivial
theorem tp_h (l : Nat) (L : List V5) (t0 : TypeId) (x : V5) (k : Nat) : ∀ r, Is (listP (mkEnv noRows []) (callWith (mkEnv noRows []) (evT (mkEnv noRows []) 60)) tpOps (tpOps.take 7) ⟨pat [(1, .ptr 0 0), (2, .ptr 2 0), (3, AV.int .i64 false ((L.length : Int) - 1 - (k : Int))), (4, .ptr 4 0)] r 0 Try.f75.ntmps, ⟨([.cells [.gsl .any 1 0 L.length] t0, .row L.length 5 (F5 L) cvE none, .cells [.func (.yield l) []] 120, .cells [.gsl .any 1 0 L.length] 27, .cells (v5 x) 35] : Mem), [], wrZ [0, 1, 3, 4]⟩⟩ (chK [(9, .func (.yield l) []), (14, AV.int .i64 false (IntKind.wrap IntKind.i64 (IntKind.wrap IntKind.i64 ((L.length : Int) - 1) - ((L.length : Int) - 1 - (k : Int))))), (15, .agg (v5 x))] Try.f75.ntmps ([.cells [.gsl .any 1 0 L.length] t0, .row L.length 5 (F5 L) cvE none, .cells [.func (.yield l) []] 120, .cells [.gsl .any 1 0 L.length] 27, .cells (v5 x) 35] : Mem) [] .normal)) := fun r => ev_eq [] (chR [(9, .func (.yield l) []), (14, AV.int .i64 false (IntKind.wrap IntKind.i64 (IntKind.wrap IntKind.i64 ((L.length : Int) - 1) - ((L.length : Int) - 1 - (k : Int))))), (15, .agg (v5 x))] Try.f75.ntmps ([.cells [.gsl .any 1 0 L.length] t0, .row L.length 5 (F5 L) cvE none, .cells [.func (.yield l) []] 120, .cells [.gsl .any 1 0 L.length] 27, .cells (v5 x) 35] : Mem) []) (by kernel_rfl) trivial
theorem tp_t (l : Nat) (L : List V5) (t0 : TypeId) (x : V5) (k : Nat) (l2 : List (Nat × AV)) : ∀ r, Is (listP (mkEnv noRows []) (callWith (mkEnv noRows []) (evT (mkEnv noRows []) 60)) tpOps (((tpOps.drop 7).tail).take 1) ⟨pat ((16, .bool true true) :: l2) r 0 Try.f75.ntmps, ⟨([.cells [.gsl .any 1 0 L.length] t0, .row L.length 5 (F5 L) cvE none, .cells [.func (.yield l) []] 120, .cells [.gsl .any 1 0 L.length] 27, .cells (v5 x) 35] : Mem), [], wrZ [0, 1, 3, 4]⟩⟩ (chK [(17, .bool true false)] Try.f75.ntmps ([.cells [.gsl .any 1 0 L.length] t0, .row L.length 5 (F5 L) cvE none, .cells [.func (.yield l) []] 120, .cells [.gsl .any 1 0 L.length] 27, .cells (v5 x) 35] : Mem) [] .normal)) := fun r => ev_eq [] (chR [(17, .bool true false)] Try.f75.ntmps ([.cells [.gsl .any 1 0 L.length] t0, .row L.length 5 (F5 L) cvE none, .cells [.func (.yield l) []] 120, .cells [.gsl .any 1 0 L.length] 27, .cells (v5 x) 35] : Mem) []) (by kernel_rfl) trivial
theorem tp_f  : ∀ r, Is (listP (mkEnv noRows []) (callWith (mkEnv noRows []) (evT (mkEnv noRows []) 60)) tpOps (((tpOps.drop 7).tail).take 1) ⟨pat [(16, .bool true false)] r 0 Try.f75.ntmps, ⟨[], [], wrZ [0, 1, 3, 4]⟩⟩ (chK [(17, .bool true true)] Try.f75.ntmps [] [] .normal)) := fun r => ev_eq [] (chR [(17, .bool true true)] Try.f75.ntmps [] []) (by kernel_rfl) trivial
theorem tp_tc (l : Nat) (L : List V5) (t0 : TypeId) (x : V5) (k : Nat) : ∀ r, Is (evT (mkEnv noRows []) 60 (.code (sR (bkB (rfB (bkB (sR (sR (scB (sR (Try.f75.body.getD .skip)))))))))) ⟨pat [(17, .bool true false)] r 0 Try.f75.ntmps, ⟨([.cells [.gsl .any 1 0 L.length] t0, .row L.length 5 (F5 L) cvE none, .cells [.func (.yield l) []] 120, .cells [.gsl .any 1 0 L.length] 27, .cells (v5 x) 35] : Mem), [], wrZ [0, 1, 3, 4]⟩⟩ (chE .normal [] Try.f75.ntmps ([.cells [.gsl .any 1 0 L.length] t0, .row L.length 5 (F5 L) cvE none, .cells [.func (.yield l) []] 120, .cells [.gsl .any 1 0 L.length] 27, .cells (v5 x) 35] : Mem) [])) := fun r => ev_eq [] (true, Try.f75.ntmps, ([] : List (Nat × AV)).map (fun p => some p.2), (([.cells [.gsl .any 1 0 L.length] t0, .row L.length 5 (F5 L) cvE none, .cells [.func (.yield l) []] 120, .cells [.gsl .any 1 0 L.length] 27, .cells (v5 x) 35] : Mem) : Mem), ([] : List Bool)) (by kernel_rfl) trivial
theorem tp_fc  : ∀ r, Is (evT (mkEnv noRows []) 60 (.code (sR (bkB (rfB (bkB (sR (sR (scB (sR (Try.f75.body.getD .skip)))))))))) ⟨pat [(17, .bool true true)] r 0 Try.f75.ntmps, ⟨[], [], wrZ [0, 1, 3, 4]⟩⟩ (chE (.exit 0) [] Try.f75.ntmps [] [])) := fun r => ev_eq [] (true, Try.f75.ntmps, ([] : List (Nat × AV)).map (fun p => some p.2), ([] : Mem), ([] : List Bool)) (by kernel_rfl) trivial
theorem tp_nil : ((tpOps.drop 7).tail).drop 1 = [] := by kernel_rfl
theorem rev_get {L : List V5} {k : Nat} {x : V5} (h : L.reverse[k]? = some x) : k < L.length := by
  have := (List.getElem?_eq_some_iff.1 h).1
  simpa using this
def Blk0 (w : World) (p : RBlk) : Prop := p.b < w.heap.size ∧ w.heap[p.b]? = some p.o
set_option maxHeartbeats 8000000 in
theorem top1_seq (b : Nat) (p1 : RBlk) (t0 : TypeId) (V0 : Value) (L : List V5) (w0 : World) (S : Nat → Prop) (hn : L.length ≤ 100000) (hV : Rel noRows [⟨b, 0, 1⟩, p1.num] (.gsl .any 1 0 L.length) V0) (hc : Blk w0 b #[V0] t0) (hrow : ∀ ρ, RelI noRows ρ (.row L.length 5 (F5 L) cvE none) p1) (hp : p1.num.ph = false → Blk0 w0 p1 ∧ S p1.b ∧ p1.b ≠ b) (hb : S b) :
    Seq Try.prog 75 #[.pointer (some ⟨b, 0, none⟩)] tpEnc L.reverse S w0 := by
  intro l J Jx W hW hJ hJx hY h0
  have hcW := hW.blk hc hb
  have hblk : W.heap[b]? = some (.cells #[V0] t0 (0, 0)) := hcW
  have hpW : p1.num.ph = false → p1.b < W.heap.size ∧ W.heap[p1.b]? = some p1.o := fun h => by
    obtain ⟨⟨q1, q2⟩, q3, _⟩ := hp h
    refine ⟨Nat.lt_of_lt_of_le q1 hW.size, ?_⟩
    rw [hW.block p1.b q3 q1]; exact q2
  have hJ0 : ∀ k, AnyN W.heap.size (J k) := fun k _ V V' row h hg hr => hJ k V V' row h hg hr
  have hS0 : ∀ k, (fun k => S k ∧ k < W.heap.size) k → k < W.heap.size := fun k h => h.2
  refine it_enter (R := noRows) (P := Try.prog) (fn := Try.f75) (c := (Try.f75.body.getD .skip)) Try.func75 (by kernel_rfl) (l := l) (caps := [.ptr 0 0]) (lb := [.pointer (some ⟨b, 0, none⟩)]) (show 1 + 1 ≤ Try.f75.ntmps by decide) (Hr := [⟨b, 0, .cells #[V0] t0 (0, 0)⟩, p1]) (H := ([.cells [.gsl .any 1 0 L.length] t0, .row L.length 5 (F5 L) cvE none] : Mem)) (S0 := (fun k => S k ∧ k < W.heap.size)) (fz := [0, 1]) (J := J 0)
    (.cons (Rel.ptr (q := ⟨b, 0, 1⟩) rfl) .nil) ⟨rfl, fun k it p h1 h2 => ?_⟩ (fun k m it jt p q hne h1 h2 v1 v2 q1 q2 z1 z2 hbb => ?_) (fun k it p h1 h2 hp' => ?_) (rd_no _ _) (fun k q hq hp' => ?_) hS0 h0 fun a had hP hB => ?_
  · match k, h1, h2 with
    | 0, h1, h2 => cases h1; cases h2; exact .cells (.cons hV .nil) rfl
    | 1, h1, h2 => cases h1; cases h2; exact hrow _
    | k + 2, h1, _ => cases h1
  · match k, h1, q1 with
    | 0, h1, q1 =>
      cases h1; cases q1
      match m, h2, q2 with
      | 0, _, _ => exact absurd rfl hne
      | 1, h2, q2 => cases h2; cases q2; exact absurd hbb.symm (hp z2).2.2
      | m + 2, h2, _ => cases h2
    | 1, h1, q1 =>
      cases h1; cases q1
      match m, h2, q2 with
      | 0, h2, q2 => cases h2; cases q2; exact absurd hbb (hp z1).2.2
      | 1, _, _ => exact absurd rfl hne
      | m + 2, h2, _ => cases h2
    | k + 2, h1, _ => cases h1
  · match k, h1, h2 with
    | 0, h1, h2 => cases h2; exact ⟨hcW.lt, fun _ => hblk⟩
    | 1, h1, h2 => cases h2; exact ⟨(hpW hp').1, fun _ => (hpW hp').2⟩
    | k + 2, h1, _ => cases h1
  · match k, hq with
    | 0, hq => cases hq; exact ⟨⟨hb, hcW.lt⟩, rfl⟩
    | 1, hq => cases hq; exact ⟨⟨(hp hp').2.1, (hpW hp').1⟩, rfl⟩
    | k + 2, hq => cases hq
  refine wp_in (in_parts (by kernel_rfl) (it_code E0_ok (.inl rfl) (hJ0 0) 60 .normal (by kernel_rfl) (tp_0 l L t0) hP hB fun a1 Hr1 w1 hP1 hB1 => ?_))
  refine wpIn_wide.2 (wp_sc (by kernel_rfl) (wp_in (in_parts (by kernel_rfl) (it_code E0_ok (.inl rfl) (hJ0 0) 60 .normal (by kernel_rfl) (tp_1 l L t0) hP1 hB1 fun a2 Hr2 w2 hP2 hB2 => ?_))))
  refine in_parts (by kernel_rfl) (it_code E0_ok (.inl rfl) (hJ0 0) 60 .normal (by kernel_rfl) (tp_2 l L t0) hP2 hB2 fun a3 Hr3 w3 hP3 hB3 => ?_)
  refine in_bk (by kernel_rfl) (wpIn_wide.2 ?_)
  have hd3 : a3.defers = [] := by obtain ⟨_, vs, rfl, _⟩ := hP3; rfl
  have hBl3 : RelB noRows (nums Hr3) ([.cells [.gsl .any 1 0 L.length] t0, .row L.length 5 (F5 L) cvE none, .cells [.func (.yield l) []] 120, .cells [.gsl .any 1 0 L.length] 27] : Mem) Hr3 := by obtain ⟨_, vs, _, _, h, _⟩ := hP3; exact h
  have hA3 : Apart ([.cells [.gsl .any 1 0 L.length] t0, .row L.length 5 (F5 L) cvE none, .cells [.func (.yield l) []] 120, .cells [.gsl .any 1 0 L.length] 27] : Mem) Hr3 := by obtain ⟨_, vs, _, _, _, h⟩ := hP3; exact h
  rw [rf_eq (c := (bkB (sR (sR (scB (sR (Try.f75.body.getD .skip))))))) (by kernel_rfl)]
  refine it_each E0_ok 60 (xs := L.reverse) (encs := bvEnc L.length) (live := [(1, .ptr 0 0), (2, .ptr 2 0), (6, .func (.func 93) [.ptr 3 0])]) (n := Try.f75.ntmps) (H := ([.cells [.gsl .any 1 0 L.length] t0, .row L.length 5 (F5 L) cvE none, .cells [.func (.yield l) []] 120, .cells [.gsl .any 1 0 L.length] 27] : Mem)) (gf := 93) (caps := [.ptr 3 0]) (fun r => by kernel_rfl) (enters_of Try.func93 (by kernel_rfl) rfl) (by kernel_rfl) [0, 1] [0, 1, 3] [0, 1, 3, 4] ?hseq (fun k x => [AV.int .i64 false ((L.length : Int) - 1 - (k : Int)), .agg (v5 x)]) (fun k x _ => rfl) (fun _ _ => rfl) (fun _ => ([.cells [.gsl .any 1 0 L.length] t0, .row L.length 5 (F5 L) cvE none, .cells [.func (.yield l) []] 120, .cells [.gsl .any 1 0 L.length] 27] : Mem)) rfl (fun _ => rfl) J hJ (fun V => ∃ j, j ≤ L.length ∧ Jx j V) (fun _ V V' row ⟨j, hj, h⟩ hg hr => ⟨j, hj, hJx j V V' row h hg hr⟩) (.exit 0)
    (fun k x => [(1, .ptr 0 0), (2, .ptr 2 0), (3, AV.int .i64 false ((L.length : Int) - 1 - (k : Int))), (4, .ptr 4 0)]) (fun _ x => ([.cells [.gsl .any 1 0 L.length] t0, .row L.length 5 (F5 L) cvE none, .cells [.func (.yield l) []] 120, .cells [.gsl .any 1 0 L.length] 27, .cells (v5 x) 35] : Mem)) (fun q h => by
      simp only [memN] at h ⊢
      revert h
      cases Nat.beq q 0 <;> cases Nat.beq q 1 <;> cases Nat.beq q 3 <;> cases Nat.beq q 4 <;> decide) (fun k x q h1 h2 => by
      have h1 : 4 ≤ q := h1
      have h2 : q < 5 := h2
      obtain rfl : q = 4 := by omega
      rfl) (fun k x r _ => tp_as l L t0 x k r) (fun _ _ => rfl) ?hbody hP3 hB3 (fun q h => by
      simp only [memN] at h ⊢
      revert h
      cases Nat.beq q 0 <;> cases Nat.beq q 1 <;> cases Nat.beq q 3 <;> decide) (fun k hk => hk.2) (fun j r h => by cases h) ?hdone ?hstop
  case hseq =>
    intro lb hlb
    cases hlb with | cons h1 h2 =>
    cases h2
    obtain ⟨q, hq, rfl⟩ := rel_ptr h1
    obtain ⟨p, hp3, rfl⟩ := nums_at hq
    have hrel := hBl3.2 3 _ p rfl hp3
    have hph := hBl3.cph (l := 3) rfl hp3
    obtain ⟨q1, q2⟩ := hB3.own.1 3 _ p rfl hp3 hph
    have hsf := sfz_of (fz := [0, 1, 3]) hBl3 hA3 hB3.own.1 rfl (l := 3) rfl hp3 hph rfl
    have hin : ∀ {l' : Nat} {p' : RBlk}, Hr3[l']? = some p' → p'.num.ph = false → Sfz [0, 1, 3] Hr3 w3 p'.b → Sin (fun k => S k ∧ k < W.heap.size) W.heap.size [0, 1, 3] Hr3 w3 p'.b := fun {l' p'} hp' hph' hs => by
      refine ⟨hs.1, ?_⟩
      rcases hB3.lab l' p'.num (nums_get hp') hph' with h | h
      · exact .inr ⟨h.1, hs.2⟩
      · exact .inl h.1
    cases hrel with | cells hr _ =>
    cases hr with | cons r1 r2 =>
    cases r2
    rename_i b3 V3 s3 hph3
    obtain ⟨A, c, rfl, hsl⟩ := newsA_slAt (s := 5) (m := L.length) (G := fun i => F5 L (0 + i)) (cs := [decide (0 + L.length ≤ L.length)]) (by omega) rwOK_no hBl3 rfl (fun c hc => by rw [List.mem_singleton.1 hc]; exact decide_eq_true (by omega)) r1
    have hcell : w3.cell? ⟨b3, 0, none⟩ = some (.slice A L.length c) := by
      have hh := q2 rfl
      simp only [World.cell?]
      rw [hh]
      rfl
    have hsl2 := hsl (fun i => v5V (L.getD i z5)) (fun i _ => by rw [Nat.zero_add]; rfl) w3 hB3.own
    have hfl : ((List.range L.length).flatMap fun i => v5V (L.getD i z5)) = L.flatMap v5V := by
      conv => rhs; rw [← list_get L]
      unfold mapN
      rw [List.flatMap_map]
    rw [hfl] at hsl2
    have hcc : L.length ≤ c := by cases r1 with | gsl _ hn' _ _ _ => exact hn'
    refine backV_seq b3 A L c w3 _ hcell hsl2 hcc hn (hin hp3 hph hsf) (fun hne b' off hA => ?_)
    have hLn : 0 < L.length := by
      cases L with
      | nil => exact absurd rfl hne
      | cons _ _ => simp
    cases r1 with | gsl hj1 _ ha1 _ _ =>
    obtain ⟨e1, hph1⟩ := ha1.resolve_left (by omega)
    obtain ⟨p', hp', rfl⟩ := nums_at hj1
    rw [hA] at e1
    cases e1
    exact hin hp' hph1 (sfz_of (fz := [0, 1, 3]) hBl3 hA3 hB3.own.1 rfl (l := 1) rfl hp' hph1 rfl)
  case hbody =>
    intro l' k x V a4 Hr4 hx hP4 hB4 hkw
    have hk4 := rev_get hx
    have hS0w : ∀ k, (fun k => S k ∧ k < W.heap.size) k → k < w3.heap.size := fun k h => by have := hB3.keep.size; omega
    have hlen3 : Hr3.length = 4 := hBl3.1
    refine in_bk (by kernel_rfl) (in_parts (by kernel_rfl) (in_ls (by kernel_rfl) ?_))
    refine it_ops E0_ok (.inr ⟨l', rfl⟩) (hJ0 k) 60 7 (by kernel_rfl) (tp_h l L t0 x k) hP4 hB4 fun a5 Hr5 w5 hP5 hB5 => ?_
    have hn0w : W.heap.size ≤ w3.heap.size := hB3.keep.size
    have hyi : IntKind.wrap IntKind.i64 (IntKind.wrap IntKind.i64 ((L.length : Int) - 1) - ((L.length : Int) - 1 - (k : Int))) = (k : Int) := by simp only [IntKind.wrap_i64]; omega
    refine it_yield (.inr ⟨l', rfl⟩) (ly := l) (d := 16) (avs := [AV.int .i64 false (IntKind.wrap IntKind.i64 (IntKind.wrap IntKind.i64 ((L.length : Int) - 1) - ((L.length : Int) - 1 - (k : Int)))), .agg (v5 x)]) (fun r => by kernel_rfl) (show 16 < Try.f75.ntmps by decide) (by kernel_rfl) (args := #[.int .i64 (k : Int), .agg (v5V x).toArray]) (by rw [hyi]; rfl) (fun k hk => hk.2.imp id (·.1)) hn0w (fun j r h => by cases h) hP5 hB5 (yield_at (hY k x w5 hx hB5.j) (fun b h => h.1)) (fun a6 w6 hP6 hB6 => ?_) (fun a6 w6 hP6 hB6 => ?_)
    · refine it_ops E0_ok (.inr ⟨l', rfl⟩) (hJ0 (k + 1)) 60 1 (by kernel_rfl) (tp_t l L t0 x k _) hP6 hB6 fun a7 Hr7 w7 hP7 hB7 => ?_
      change wpListIn (Fence.wide.inRound l') 0 _ _ _ (((tpOps.drop 7).tail).drop 1) a7 w7
      rw [tp_nil]
      refine in_nil (it_code E0_ok (.inr ⟨l', rfl⟩) (hJ0 (k + 1)) 60 .normal (by kernel_rfl) (tp_tc l L t0 x k) hP7 hB7 fun a8 Hr8 w8 hP8 hB8 => ?_)
      exact it_end hP8 hB8 hkw hS0w (by rw [hlen3]; rfl) (by rw [hlen3]; rfl)
    · refine it_ops E0_ok (.inr ⟨l', rfl⟩) (J := Jx (k + 1)) (fun _ V V' row h hg hr => hJx _ V V' row h hg hr) 60 1 (by kernel_rfl) tp_f hP6 hB6 fun a7 Hr7 w7 hP7 hB7 => ?_
      change wpListIn (Fence.wide.inRound l') 0 _ _ _ (((tpOps.drop 7).tail).drop 1) a7 w7
      rw [tp_nil]
      refine in_nil (it_code E0_ok (.inr ⟨l', rfl⟩) (J := Jx (k + 1)) (fun _ V V' row h hg hr => hJx _ V V' row h hg hr) 60 (.exit 0) (by kernel_rfl) tp_fc hP7 hB7 fun a8 Hr8 w8 hP8 hB8 => ?_)
      exact ⟨hB8.keep.mono fun k hk => .inr hk, rfl, k + 1, by omega, hB8.j⟩
  case hdone =>
    intro V hj hD
    rw [hd3]
    exact end_mark1 hD (results_none rfl _ _ _) ⟨⟨_, rfl⟩, .inl (hJ _ _ _ _ hj (grownBy_putObj' _ _ _) (fun r e => by cases e; exact hB3.keep.size))⟩
  case hstop =>
    rintro V ⟨j, hj4, hj⟩ hD
    refine wp_exit ?_
    rw [hd3]
    exact end_mark1 hD (results_none rfl _ _ _) ⟨⟨_, rfl⟩, .inr ⟨j, by rw [List.length_reverse]; exact hj4, hJx j _ _ _ hj (grownBy_putObj' _ _ _) (fun r e => by cases e; exact hB3.keep.size)⟩⟩
end Go.Proofs.Ytcfomhnfhalmaaa
end

section
set_option linter.unusedVariables false
set_option linter.unusedSimpArgs false
set_option maxRecDepth 100000
namespace Go.Proofs.Ytcfomhnfhalmaaa
open Go.RowKit

noncomputable def wkq0 : Code := (Try.f8.body.getD .skip)
noncomputable def wkq1 : Code := sR wkq0
noncomputable def wkq2 : Code := sR wkq1
noncomputable def wkq3 : Code := sR wkq2
noncomputable def wkq4 : Code := sR wkq3
noncomputable def wkq5 : Code := sR wkq4
noncomputable def wkq6 : Code := sR wkq5
noncomputable def wkq7 : Code := sR wkq6
noncomputable def wkq8 : Code := sR wkq7
noncomputable def wkq9 : Code := sR wkq8
noncomputable def wkq10 : Code := sR wkq9
noncomputable abbrev wkN : Nat := Try.f8.ntmps
noncomputable def wkT0 : List TIt := []
noncomputable def wkT1 : List TIt := []
theorem wk_0 : ∀ r, Is (evT (EG noRows true [] []) 60 (.code (sL wkq0)) ⟨pat [] r 0 wkN, ⟨wkT0.map TIt.real, [], allW⟩⟩ (selT [] .normal [(0, .bool true false)] wkN wkT1)) := fun r => ev_eq ([].map fun b => (b, b)) (selTR [(0, .bool true false)] wkN wkT1) (by kernel_rfl) (allE_same [])
noncomputable def wkT2 : List TIt := [.row 2 5 cvE none [[.int .u64 true 1, .int .u64 true 0, .int .u64 true 0, .int .u64 true 0, .int .u64 true 0], [.int .u64 true 2, .int .u64 true 0, .int .u64 true 0, .int .u64 true 0, .int .u64 true 0]], .it (.cells [.gsl .top 0 0 2, .bool true true] 74)]
theorem wk_1 : ∀ r, Is (evT (EG noRows true [] []) 60 (.code (sL wkq1)) ⟨pat [(0, .bool true false)] r 0 wkN, ⟨wkT1.map TIt.real, [], allW⟩⟩ (selT [6, 7] .normal [(0, .bool true false), (1, .ptr 1 0), (2, .int .i64 true 0)] wkN wkT2)) := fun r => ev_eq ([true].map fun b => (b, b)) (selTR [(0, .bool true false), (1, .ptr 1 0), (2, .int .i64 true 0)] wkN wkT2) (by kernel_rfl) (allE_same [true])
noncomputable def wkT3 : List TIt := [.it (.cells [.gsl .top 1 0 3, .bool true true] 74), .row 3 5 cvE none [[.int .u64 true 1, .int .u64 true 0, .int .u64 true 0, .int .u64 true 0, .int .u64 true 0], [.int .u64 true 1, .int .u64 true 0, .int .u64 true 0, .int .u64 true 0, .int .u64 true 0], [.int .u64 true 2, .int .u64 true 0, .int .u64 true 0, .int .u64 true 0, .int .u64 true 0]]]
theorem wk_2 : ∀ r, Is (evT (EG noRows true [] []) 60 (.code (sL wkq2)) ⟨pat [(0, .bool true false), (1, .ptr 1 0), (2, .int .i64 true 0)] r 0 wkN, ⟨wkT2.map TIt.real, [false, false, false], allW⟩⟩ (selT [1, 36] .normal [(0, .bool true false), (1, .ptr 0 0), (3, .int .i64 true 0)] wkN wkT3)) := fun r => ev_eq ([false, true, true, false, true, true, true, true, false, true, true, true, true, true, true, true, true, true, true].map fun b => (b, b)) (selTR [(0, .bool true false), (1, .ptr 0 0), (3, .int .i64 true 0)] wkN wkT3) (by kernel_rfl) (allE_same [false, true, true, false, true, true, true, true, false, true, true, true, true, true, true, true, true, true, true])
noncomputable def wkT4 : List TIt := [.it (.cells [.gsl .full 1 0 0, .bool true true] 74), .row 3 5 cvE none [[.int .u64 true 1, .int .u64 true 0, .int .u64 true 0, .int .u64 true 0, .int .u64 true 0], [.int .u64 true 1, .int .u64 true 0, .int .u64 true 0, .int .u64 true 0, .int .u64 true 0], [.int .u64 true 2, .int .u64 true 0, .int .u64 true 0, .int .u64 true 0, .int .u64 true 0]], .row 3 5 cvE none [[.int .u64 true 2, .int .u64 true 0, .int .u64 true 0, .int .u64 true 0, .int .u64 true 0], [.int .u64 true 1, .int .u64 true 0, .int .u64 true 0, .int .u64 true 0, .int .u64 true 0], [.int .u64 true 1, .int .u64 true 0, .int .u64 true 0, .int .u64 true 0, .int .u64 true 0]]]
theorem wk_3 : ∀ r, Is (evT (EG noRows true [] []) 60 (.code (sL wkq3)) ⟨pat [(0, .bool true false), (1, .ptr 0 0), (3, .int .i64 true 0)] r 0 wkN, ⟨wkT3.map TIt.real, [false, true, false], allW⟩⟩ (selT [0, 1, 12] .normal [(0, .bool true false), (1, .ptr 0 0), (3, .int .i64 true 0), (4, .gsl .top 2 0 3), (5, .int .i64 true 0)] wkN wkT4)) := fun r => ev_eq ([false, true, true, true, true, true, true, true, true, true, true, true, true, true, true, false].map fun b => (b, b)) (selTR [(0, .bool true false), (1, .ptr 0 0), (3, .int .i64 true 0), (4, .gsl .top 2 0 3), (5, .int .i64 true 0)] wkN wkT4) (by kernel_rfl) (allE_same [false, true, true, true, true, true, true, true, true, true, true, true, true, true, true, false])
noncomputable def wkT5 : List TIt := [.it (.cells [.gsl .full 1 0 0, .bool true true] 74), .row 3 5 cvE none [[.int .u64 true 1, .int .u64 true 0, .int .u64 true 0, .int .u64 true 0, .int .u64 true 0], [.int .u64 true 1, .int .u64 true 0, .int .u64 true 0, .int .u64 true 0, .int .u64 true 0], [.int .u64 true 2, .int .u64 true 0, .int .u64 true 0, .int .u64 true 0, .int .u64 true 0]], .row 3 5 cvE none [[.int .u64 true 2, .int .u64 true 0, .int .u64 true 0, .int .u64 true 0, .int .u64 true 0], [.int .u64 true 1, .int .u64 true 0, .int .u64 true 0, .int .u64 true 0, .int .u64 true 0], [.int .u64 true 1, .int .u64 true 0, .int .u64 true 0, .int .u64 true 0, .int .u64 true 0]]]
theorem wk_4 : ∀ r, Is (evT (EG noRows true [] []) 60 (.code (sL wkq4)) ⟨pat [(0, .bool true false), (1, .ptr 0 0), (3, .int .i64 true 0), (4, .gsl .top 2 0 3), (5, .int .i64 true 0)] r 0 wkN, ⟨wkT4.map TIt.real, [true], allW⟩⟩ (selT [0, 1, 2] .normal [(0, .bool true false), (1, .ptr 0 0), (3, .int .i64 true 0), (4, .gsl .top 2 0 3), (5, .int .i64 true 0), (7, .int .i64 true 370)] wkN wkT5)) := fun r => ev_eq ([true].map fun b => (b, b)) (selTR [(0, .bool true false), (1, .ptr 0 0), (3, .int .i64 true 0), (4, .gsl .top 2 0 3), (5, .int .i64 true 0), (7, .int .i64 true 370)] wkN wkT5) (by kernel_rfl) (allE_same [true])
noncomputable def wkT6 : List TIt := [.it (.cells [.gsl .full 1 0 0, .bool true true] 74), .row 3 5 cvE none [[.int .u64 true 1, .int .u64 true 0, .int .u64 true 0, .int .u64 true 0, .int .u64 true 0], [.int .u64 true 1, .int .u64 true 0, .int .u64 true 0, .int .u64 true 0, .int .u64 true 0], [.int .u64 true 2, .int .u64 true 0, .int .u64 true 0, .int .u64 true 0, .int .u64 true 0]], .row 3 5 cvE none [[.int .u64 true 2, .int .u64 true 0, .int .u64 true 0, .int .u64 true 0, .int .u64 true 0], [.int .u64 true 1, .int .u64 true 0, .int .u64 true 0, .int .u64 true 0, .int .u64 true 0], [.int .u64 true 1, .int .u64 true 0, .int .u64 true 0, .int .u64 true 0, .int .u64 true 0]], .it (.cells [.raw (Value.slice none 0 0), .bool true true] 57)]
theorem wk_5 : ∀ r, Is (evT (EG noRows true [] []) 60 (.code (sL wkq5)) ⟨pat [(0, .bool true false), (1, .ptr 0 0), (3, .int .i64 true 0), (4, .gsl .top 2 0 3), (5, .int .i64 true 0), (7, .int .i64 true 370)] r 0 wkN, ⟨wkT5.map TIt.real, [], allW⟩⟩ (selT [0, 1, 2, 3] .normal [(0, .bool true false), (1, .ptr 0 0), (3, .int .i64 true 0), (4, .gsl .top 2 0 3), (5, .int .i64 true 0), (7, .int .i64 true 370), (8, .ptr 3 0)] wkN wkT6)) := fun r => ev_eq ([].map fun b => (b, b)) (selTR [(0, .bool true false), (1, .ptr 0 0), (3, .int .i64 true 0), (4, .gsl .top 2 0 3), (5, .int .i64 true 0), (7, .int .i64 true 370), (8, .ptr 3 0)] wkN wkT6) (by kernel_rfl) (allE_same [])
noncomputable def wkT7 : List TIt := [.it (.cells [.gsl .full 1 0 0, .bool true true] 74), .row 3 5 cvE none [[.int .u64 true 1, .int .u64 true 0, .int .u64 true 0, .int .u64 true 0, .int .u64 true 0], [.int .u64 true 1, .int .u64 true 0, .int .u64 true 0, .int .u64 true 0, .int .u64 true 0], [.int .u64 true 2, .int .u64 true 0, .int .u64 true 0, .int .u64 true 0, .int .u64 true 0]], .row 3 5 cvE none [[.int .u64 true 2, .int .u64 true 0, .int .u64 true 0, .int .u64 true 0, .int .u64 true 0], [.int .u64 true 1, .int .u64 true 0, .int .u64 true 0, .int .u64 true 0, .int .u64 true 0], [.int .u64 true 1, .int .u64 true 0, .int .u64 true 0, .int .u64 true 0, .int .u64 true 0]], .it (.cells [.gsl .top 4 0 64, .bool true true] 57), .row 64 2 ccE none [[.int .u8 true 0, .int .u64 true 0], [.int .u8 true 0, .int .u64 true 0], [.int .u8 true 0, .int .u64 true 0], [.int .u8 true 0, .int .u64 true 0], [.int .u8 true 0, .int .u64 true 0], [.int .u8 true 0, .int .u64 true 0], [.int .u8 true 0, .int .u64 true 0], [.int .u8 true 0, .int .u64 true 0], [.int .u8 true 0, .int .u64 true 0], [.int .u8 true 0, .int .u64 true 0], [.int .u8 true 0, .int .u64 true 0], [.int .u8 true 0, .int .u64 true 0], [.int .u8 true 0, .int .u64 true 0], [.int .u8 true 0, .int .u64 true 0], [.int .u8 true 0, .int .u64 true 0], [.int .u8 true 0, .int .u64 true 0], [.int .u8 true 0, .int .u64 true 0], [.int .u8 true 0, .int .u64 true 0], [.int .u8 true 0, .int .u64 true 0], [.int .u8 true 0, .int .u64 true 0], [.int .u8 true 0, .int .u64 true 0], [.int .u8 true 0, .int .u64 true 0], [.int .u8 true 0, .int .u64 true 0], [.int .u8 true 0, .int .u64 true 0], [.int .u8 true 0, .int .u64 true 0], [.int .u8 true 0, .int .u64 true 0], [.int .u8 true 0, .int .u64 true 0], [.int .u8 true 0, .int .u64 true 0], [.int .u8 true 0, .int .u64 true 0], [.int .u8 true 0, .int .u64 true 0], [.int .u8 true 0, .int .u64 true 0], [.int .u8 true 5, .int .u64 true 1], [.int .u8 true 6, .int .u64 true 0], [.int .u8 true 0, .int .u64 true 0], [.int .u8 true 0, .int .u64 true 0], [.int .u8 true 0, .int .u64 true 0], [.int .u8 true 0, .int .u64 true 0], [.int .u8 true 0, .int .u64 true 0], [.int .u8 true 0, .int .u64 true 0], [.int .u8 true 0, .int .u64 true 0], [.int .u8 true 0, .int .u64 true 0], [.int .u8 true 0, .int .u64 true 0], [.int .u8 true 0, .int .u64 true 0], [.int .u8 true 0, .int .u64 true 0], [.int .u8 true 0, .int .u64 true 0], [.int .u8 true 0, .int .u64 true 0], [.int .u8 true 0, .int .u64 true 0], [.int .u8 true 0, .int .u64 true 0], [.int .u8 true 0, .int .u64 true 0], [.int .u8 true 0, .int .u64 true 0], [.int .u8 true 0, .int .u64 true 0], [.int .u8 true 0, .int .u64 true 0], [.int .u8 true 0, .int .u64 true 0], [.int .u8 true 0, .int .u64 true 0], [.int .u8 true 0, .int .u64 true 0], [.int .u8 true 0, .int .u64 true 0], [.int .u8 true 0, .int .u64 true 0], [.int .u8 true 0, .int .u64 true 0], [.int .u8 true 0, .int .u64 true 0], [.int .u8 true 0, .int .u64 true 0], [.int .u8 true 0, .int .u64 true 0], [.int .u8 true 0, .int .u64 true 0], [.int .u8 true 0, .int .u64 true 0], [.int .u8 true 0, .int .u64 true 0]]]
theorem wk_6 : ∀ r, Is (evT (EG noRows true [] []) 60 (.code (sL wkq6)) ⟨pat [(0, .bool true false), (1, .ptr 0 0), (3, .int .i64 true 0), (4, .gsl .top 2 0 3), (5, .int .i64 true 0), (7, .int .i64 true 370), (8, .ptr 3 0)] r 0 wkN, ⟨wkT6.map TIt.real, [], allW⟩⟩ (selT [0, 1, 2, 3, 25] .normal [(0, .bool true false), (1, .ptr 0 0), (3, .int .i64 true 0), (4, .gsl .top 2 0 3), (7, .int .i64 true 370), (8, .ptr 3 0)] wkN wkT7)) := fun r => ev_eq ([true, true, true, true, true, true, true, true, true, true, true, true, true].map fun b => (b, b)) (selTR [(0, .bool true false), (1, .ptr 0 0), (3, .int .i64 true 0), (4, .gsl .top 2 0 3), (7, .int .i64 true 370), (8, .ptr 3 0)] wkN wkT7) (by kernel_rfl) (allE_same [true, true, true, true, true, true, true, true, true, true, true, true, true])
noncomputable def wkT8 : List TIt := [.it (.cells [.gsl .full 1 0 0, .bool true true] 74), .row 3 5 cvE none [[.int .u64 true 1, .int .u64 true 0, .int .u64 true 0, .int .u64 true 0, .int .u64 true 0], [.int .u64 true 1, .int .u64 true 0, .int .u64 true 0, .int .u64 true 0, .int .u64 true 0], [.int .u64 true 2, .int .u64 true 0, .int .u64 true 0, .int .u64 true 0, .int .u64 true 0]], .row 3 5 cvE none [[.int .u64 true 2, .int .u64 true 0, .int .u64 true 0, .int .u64 true 0, .int .u64 true 0], [.int .u64 true 1, .int .u64 true 0, .int .u64 true 0, .int .u64 true 0, .int .u64 true 0], [.int .u64 true 1, .int .u64 true 0, .int .u64 true 0, .int .u64 true 0, .int .u64 true 0]], .it (.cells [.gsl .top 4 0 64, .bool true true] 57), .row 64 2 ccE none [[.int .u8 true 0, .int .u64 true 0], [.int .u8 true 0, .int .u64 true 0], [.int .u8 true 0, .int .u64 true 0], [.int .u8 true 0, .int .u64 true 0], [.int .u8 true 0, .int .u64 true 0], [.int .u8 true 0, .int .u64 true 0], [.int .u8 true 0, .int .u64 true 0], [.int .u8 true 0, .int .u64 true 0], [.int .u8 true 0, .int .u64 true 0], [.int .u8 true 0, .int .u64 true 0], [.int .u8 true 0, .int .u64 true 0], [.int .u8 true 0, .int .u64 true 0], [.int .u8 true 0, .int .u64 true 0], [.int .u8 true 0, .int .u64 true 0], [.int .u8 true 0, .int .u64 true 0], [.int .u8 true 0, .int .u64 true 0], [.int .u8 true 0, .int .u64 true 0], [.int .u8 true 0, .int .u64 true 0], [.int .u8 true 0, .int .u64 true 0], [.int .u8 true 0, .int .u64 true 0], [.int .u8 true 0, .int .u64 true 0], [.int .u8 true 0, .int .u64 true 0], [.int .u8 true 0, .int .u64 true 0], [.int .u8 true 0, .int .u64 true 0], [.int .u8 true 0, .int .u64 true 0], [.int .u8 true 0, .int .u64 true 0], [.int .u8 true 0, .int .u64 true 0], [.int .u8 true 0, .int .u64 true 0], [.int .u8 true 0, .int .u64 true 0], [.int .u8 true 0, .int .u64 true 0], [.int .u8 true 0, .int .u64 true 0], [.int .u8 true 5, .int .u64 true 1], [.int .u8 true 6, .int .u64 true 0], [.int .u8 true 0, .int .u64 true 0], [.int .u8 true 0, .int .u64 true 0], [.int .u8 true 0, .int .u64 true 0], [.int .u8 true 0, .int .u64 true 0], [.int .u8 true 0, .int .u64 true 0], [.int .u8 true 0, .int .u64 true 0], [.int .u8 true 0, .int .u64 true 0], [.int .u8 true 0, .int .u64 true 0], [.int .u8 true 0, .int .u64 true 0], [.int .u8 true 0, .int .u64 true 0], [.int .u8 true 0, .int .u64 true 0], [.int .u8 true 0, .int .u64 true 0], [.int .u8 true 0, .int .u64 true 0], [.int .u8 true 0, .int .u64 true 0], [.int .u8 true 0, .int .u64 true 0], [.int .u8 true 0, .int .u64 true 0], [.int .u8 true 0, .int .u64 true 0], [.int .u8 true 0, .int .u64 true 0], [.int .u8 true 0, .int .u64 true 0], [.int .u8 true 0, .int .u64 true 0], [.int .u8 true 0, .int .u64 true 0], [.int .u8 true 0, .int .u64 true 0], [.int .u8 true 0, .int .u64 true 0], [.int .u8 true 0, .int .u64 true 0], [.int .u8 true 0, .int .u64 true 0], [.int .u8 true 0, .int .u64 true 0], [.int .u8 true 0, .int .u64 true 0], [.int .u8 true 0, .int .u64 true 0], [.int .u8 true 0, .int .u64 true 0], [.int .u8 true 0, .int .u64 true 0], [.int .u8 true 0, .int .u64 true 0]]]
theorem wk_7 : ∀ r, Is (evT (EG noRows true [] []) 60 (.code (sL wkq7)) ⟨pat [(0, .bool true false), (1, .ptr 0 0), (3, .int .i64 true 0), (4, .gsl .top 2 0 3), (7, .int .i64 true 370), (8, .ptr 3 0)] r 0 wkN, ⟨wkT7.map TIt.real, [], allW⟩⟩ (selT [0, 1, 2, 3, 4] .normal [(0, .bool true false), (1, .ptr 0 0), (3, .int .i64 true 0), (4, .gsl .top 2 0 3), (7, .int .i64 true 370), (8, .ptr 3 0), (9, .int .i64 false 2)] wkN wkT8)) := fun r => ev_eq ([].map fun b => (b, b)) (selTR [(0, .bool true false), (1, .ptr 0 0), (3, .int .i64 true 0), (4, .gsl .top 2 0 3), (7, .int .i64 true 370), (8, .ptr 3 0), (9, .int .i64 false 2)] wkN wkT8) (by kernel_rfl) (allE_same [])
noncomputable def wkT9 : List TIt := [.it (.cells [.gsl .full 1 0 0, .bool true true] 74), .row 3 5 cvE none [[.int .u64 true 1, .int .u64 true 0, .int .u64 true 0, .int .u64 true 0, .int .u64 true 0], [.int .u64 true 1, .int .u64 true 0, .int .u64 true 0, .int .u64 true 0, .int .u64 true 0], [.int .u64 true 2, .int .u64 true 0, .int .u64 true 0, .int .u64 true 0, .int .u64 true 0]], .row 3 5 cvE none [[.int .u64 true 2, .int .u64 true 0, .int .u64 true 0, .int .u64 true 0, .int .u64 true 0], [.int .u64 true 1, .int .u64 true 0, .int .u64 true 0, .int .u64 true 0, .int .u64 true 0], [.int .u64 true 1, .int .u64 true 0, .int .u64 true 0, .int .u64 true 0, .int .u64 true 0]], .it (.cells [.gsl .top 4 0 64, .bool true true] 57), .row 64 2 ccE none [[.int .u8 true 0, .int .u64 true 0], [.int .u8 true 0, .int .u64 true 0], [.int .u8 true 0, .int .u64 true 0], [.int .u8 true 0, .int .u64 true 0], [.int .u8 true 0, .int .u64 true 0], [.int .u8 true 0, .int .u64 true 0], [.int .u8 true 0, .int .u64 true 0], [.int .u8 true 0, .int .u64 true 0], [.int .u8 true 0, .int .u64 true 0], [.int .u8 true 0, .int .u64 true 0], [.int .u8 true 0, .int .u64 true 0], [.int .u8 true 0, .int .u64 true 0], [.int .u8 true 0, .int .u64 true 0], [.int .u8 true 0, .int .u64 true 0], [.int .u8 true 0, .int .u64 true 0], [.int .u8 true 0, .int .u64 true 0], [.int .u8 true 0, .int .u64 true 0], [.int .u8 true 0, .int .u64 true 0], [.int .u8 true 0, .int .u64 true 0], [.int .u8 true 0, .int .u64 true 0], [.int .u8 true 0, .int .u64 true 0], [.int .u8 true 0, .int .u64 true 0], [.int .u8 true 0, .int .u64 true 0], [.int .u8 true 0, .int .u64 true 0], [.int .u8 true 0, .int .u64 true 0], [.int .u8 true 0, .int .u64 true 0], [.int .u8 true 0, .int .u64 true 0], [.int .u8 true 0, .int .u64 true 0], [.int .u8 true 0, .int .u64 true 0], [.int .u8 true 0, .int .u64 true 0], [.int .u8 true 0, .int .u64 true 0], [.int .u8 true 5, .int .u64 true 1], [.int .u8 true 6, .int .u64 true 0], [.int .u8 true 0, .int .u64 true 0], [.int .u8 true 0, .int .u64 true 0], [.int .u8 true 0, .int .u64 true 0], [.int .u8 true 0, .int .u64 true 0], [.int .u8 true 0, .int .u64 true 0], [.int .u8 true 0, .int .u64 true 0], [.int .u8 true 0, .int .u64 true 0], [.int .u8 true 0, .int .u64 true 0], [.int .u8 true 0, .int .u64 true 0], [.int .u8 true 0, .int .u64 true 0], [.int .u8 true 0, .int .u64 true 0], [.int .u8 true 0, .int .u64 true 0], [.int .u8 true 0, .int .u64 true 0], [.int .u8 true 0, .int .u64 true 0], [.int .u8 true 0, .int .u64 true 0], [.int .u8 true 0, .int .u64 true 0], [.int .u8 true 0, .int .u64 true 0], [.int .u8 true 0, .int .u64 true 0], [.int .u8 true 0, .int .u64 true 0], [.int .u8 true 0, .int .u64 true 0], [.int .u8 true 0, .int .u64 true 0], [.int .u8 true 0, .int .u64 true 0], [.int .u8 true 0, .int .u64 true 0], [.int .u8 true 0, .int .u64 true 0], [.int .u8 true 0, .int .u64 true 0], [.int .u8 true 0, .int .u64 true 0], [.int .u8 true 0, .int .u64 true 0], [.int .u8 true 0, .int .u64 true 0], [.int .u8 true 0, .int .u64 true 0], [.int .u8 true 0, .int .u64 true 0], [.int .u8 true 0, .int .u64 true 0]], .row 4 2 ccE none [[.int .u8 true 0, .int .u64 true 0], [.int .u8 true 5, .int .u64 true 1], [.int .u8 true 6, .int .u64 true 0], [.int .u8 true 0, .int .u64 true 0]]]
theorem wk_8 : ∀ r, Is (evT (EG noRows true [] []) 60 (.code (sL wkq8)) ⟨pat [(0, .bool true false), (1, .ptr 0 0), (3, .int .i64 true 0), (4, .gsl .top 2 0 3), (7, .int .i64 true 370), (8, .ptr 3 0), (9, .int .i64 false 2)] r 0 wkN, ⟨wkT8.map TIt.real, [false, false], allW⟩⟩ (selT [0, 1, 2, 3, 4, 23] .normal [(0, .bool true false), (1, .ptr 0 0), (3, .int .i64 true 0), (4, .gsl .top 2 0 3), (7, .int .i64 true 370), (8, .ptr 3 0), (9, .int .i64 false 2), (10, .gsl .top 5 0 4), (11, .int .i64 true 0)] wkN wkT9)) := fun r => ev_eq ([true, true, false, true, true, false, true, true, true, true].map fun b => (b, b)) (selTR [(0, .bool true false), (1, .ptr 0 0), (3, .int .i64 true 0), (4, .gsl .top 2 0 3), (7, .int .i64 true 370), (8, .ptr 3 0), (9, .int .i64 false 2), (10, .gsl .top 5 0 4), (11, .int .i64 true 0)] wkN wkT9) (by kernel_rfl) (allE_same [true, true, false, true, true, false, true, true, true, true])
noncomputable def wkT10 : List TIt := [.it (.cells [.gsl .full 1 0 0, .bool true true] 74), .row 3 5 cvE none [[.int .u64 true 1, .int .u64 true 0, .int .u64 true 0, .int .u64 true 0, .int .u64 true 0], [.int .u64 true 1, .int .u64 true 0, .int .u64 true 0, .int .u64 true 0, .int .u64 true 0], [.int .u64 true 2, .int .u64 true 0, .int .u64 true 0, .int .u64 true 0, .int .u64 true 0]], .row 3 5 cvE none [[.int .u64 true 2, .int .u64 true 0, .int .u64 true 0, .int .u64 true 0, .int .u64 true 0], [.int .u64 true 1, .int .u64 true 0, .int .u64 true 0, .int .u64 true 0, .int .u64 true 0], [.int .u64 true 1, .int .u64 true 0, .int .u64 true 0, .int .u64 true 0, .int .u64 true 0]], .row 4 2 ccE none [[.int .u8 true 0, .int .u64 true 0], [.int .u8 true 5, .int .u64 true 1], [.int .u8 true 6, .int .u64 true 0], [.int .u8 true 0, .int .u64 true 0]]]
theorem wk_9 : ∀ r, Is (evT (EG noRows true [] []) 60 (.code (sL wkq9)) ⟨pat [(0, .bool true false), (1, .ptr 0 0), (3, .int .i64 true 0), (4, .gsl .top 2 0 3), (7, .int .i64 true 370), (8, .ptr 3 0), (9, .int .i64 false 2), (10, .gsl .top 5 0 4), (11, .int .i64 true 0)] r 0 wkN, ⟨wkT9.map TIt.real, [true], allW⟩⟩ (selT [0, 1, 2, 5] .normal [(0, .bool true false), (1, .ptr 0 0), (3, .int .i64 true 0), (4, .gsl .top 2 0 3), (7, .int .i64 true 370), (9, .int .i64 false 2), (10, .gsl .top 3 0 4), (11, .int .i64 true 0), (13, .int .i64 true 4)] wkN wkT10)) := fun r => ev_eq ([true, true, true].map fun b => (b, b)) (selTR [(0, .bool true false), (1, .ptr 0 0), (3, .int .i64 true 0), (4, .gsl .top 2 0 3), (7, .int .i64 true 370), (9, .int .i64 false 2), (10, .gsl .top 3 0 4), (11, .int .i64 true 0), (13, .int .i64 true 4)] wkN wkT10) (by kernel_rfl) (allE_same [true, true, true])
theorem wk_10 : ∀ rs, Is (evT (EG noRows true [] []) 60 (.code wkq10) ⟨pat [(0, .bool true false), (1, .ptr 0 0), (3, .int .i64 true 0), (4, .gsl .top 2 0 3), (7, .int .i64 true 370), (9, .int .i64 false 2), (10, .gsl .top 3 0 4), (11, .int .i64 true 0), (13, .int .i64 true 4)] rs 0 wkN, ⟨wkT10.map TIt.real, [false, true, true, true, false, true, false, true, true, true, true, false], allW⟩⟩ (retK (EG noRows true [] []) Try.f8 (.bool true true))) := fun rs => ev_eq ([false, true, true, true, true, true, true, true, true, true, true, true, true, true, true, true, false, true, false, true, true, true, true, true, true, true, true, true, true, true, true, true, true, true, true, true, true, true, true, true, true, true, true, true, true, true, true, true, true, true, true, true, true, true, true, false].map fun b => (b, b)) (some [(.bool true true : AV)]) (by kernel_rfl) (allE_same [false, true, true, true, true, true, true, true, true, true, true, true, true, true, true, true, false, true, false, true, true, true, true, true, true, true, true, true, true, true, true, true, true, true, true, true, true, true, true, true, true, true, true, true, true, true, true, true, true, true, true, true, true, true, true, false])
theorem works_any (w : World) : Calls Try.prog 8 #[] w fun e w' => e = .returned (.bool true) ∧ Below w.heap.size w w' := by
  have hE := EG_ok rwOK_no true good_nil goodM_nil
  refine ev_enter (E := EG noRows true [] []) (fn := Try.f8) (c := wkq0) Try.func8 (by kernel_rfl) (args := []) (Args := []) (show 0 ≤ wkN by decide) .nil (rd_no _ _) (ds := []) (wr := allW) fun a0 hP0 hB0 => ?_
  refine wp_parts (c := wkq0) (by kernel_rfl) (ev_codeT hE 60 [] .normal (by decide) wk_0 hP0 hB0 fun a1 Hr1 w1 hP1 hB1 => ?_)
  show (wkq1).wp _ _ _ _
  refine wp_parts (c := wkq1) (by kernel_rfl) (ev_codeT hE 60 [6, 7] .normal (by decide) wk_1 hP1 hB1 fun a2 Hr2 w2 hP2 hB2 => ?_)
  show (wkq2).wp _ _ _ _
  refine wp_parts (c := wkq2) (by kernel_rfl) (ev_codeT hE 60 [1, 36] .normal (by decide) wk_2 hP2 hB2 fun a3 Hr3 w3 hP3 hB3 => ?_)
  show (wkq3).wp _ _ _ _
  refine wp_parts (c := wkq3) (by kernel_rfl) (ev_codeT hE 60 [0, 1, 12] .normal (by decide) wk_3 hP3 hB3 fun a4 Hr4 w4 hP4 hB4 => ?_)
  show (wkq4).wp _ _ _ _
  refine wp_parts (c := wkq4) (by kernel_rfl) (ev_codeT hE 60 [0, 1, 2] .normal (by decide) wk_4 hP4 hB4 fun a5 Hr5 w5 hP5 hB5 => ?_)
  show (wkq5).wp _ _ _ _
  refine wp_parts (c := wkq5) (by kernel_rfl) (ev_codeT hE 60 [0, 1, 2, 3] .normal (by decide) wk_5 hP5 hB5 fun a6 Hr6 w6 hP6 hB6 => ?_)
  show (wkq6).wp _ _ _ _
  refine wp_parts (c := wkq6) (by kernel_rfl) (ev_codeT hE 60 [0, 1, 2, 3, 25] .normal (by decide) wk_6 hP6 hB6 fun a7 Hr7 w7 hP7 hB7 => ?_)
  show (wkq7).wp _ _ _ _
  refine wp_parts (c := wkq7) (by kernel_rfl) (ev_codeT hE 60 [0, 1, 2, 3, 4] .normal (by decide) wk_7 hP7 hB7 fun a8 Hr8 w8 hP8 hB8 => ?_)
  show (wkq8).wp _ _ _ _
  refine wp_parts (c := wkq8) (by kernel_rfl) (ev_codeT hE 60 [0, 1, 2, 3, 4, 23] .normal (by decide) wk_8 hP8 hB8 fun a9 Hr9 w9 hP9 hB9 => ?_)
  show (wkq9).wp _ _ _ _
  refine wp_parts (c := wkq9) (by kernel_rfl) (ev_codeT hE 60 [0, 1, 2, 5] .normal (by decide) wk_9 hP9 hB9 fun a10 Hr10 w10 hP10 hB10 => ?_)
  show (wkq10).wp _ _ _ _
  exact ev_rest hE 60 wk_10 rfl (fun j r h => by cases h) hP10 hB10
end Go.Proofs.Ytcfomhnfhalmaaa
end

section
set_option linter.unusedVariables false
set_option linter.unusedSimpArgs false
set_option maxRecDepth 100000
namespace Go.Proofs.Ytcfomhnfhalmaaa
open Go.RowKit

noncomputable def tabW : List (Nat × CtrF) := [(8, ctr0 (.bool true true))]
theorem tabW_ok {R : Rws} : ∀ p ∈ tabW, Good Try.prog R p.1 p.2 := good_cons (p := (_, _)) (ctr0_ok (enters_of Try.func8 (by kernel_rfl) rfl) rfl works_any) good_nil
end Go.Proofs.Ytcfomhnfhalmaaa
end

section
set_option linter.unusedVariables false
set_option linter.unusedSimpArgs false
set_option maxRecDepth 100000
namespace Go.Proofs.Ytcfomhnfhalmaaa
open Go.RowKit

structure V4 where
  a : BitVec 64
  b : BitVec 64
  c : BitVec 64
  d : BitVec 64
def F4 (L : List V4) (i : Nat) : List AV := let x := L.getD i ⟨0, 0, 0, 0⟩; [.bv .u64 x.a, .bv .u64 x.b, .bv .u64 x.c, .bv .u64 x.d]
structure A7 where
  w : Int
  n : Int
  v : V5
end Go.Proofs.Ytcfomhnfhalmaaa
end

section
set_option linter.unusedVariables false
set_option linter.unusedSimpArgs false
set_option maxRecDepth 100000
namespace Go.Proofs.Ytcfomhnfhalmaaa
open Go.RowKit

def Al (A B : List V5) (up : BitVec 64) : Prop := A.length = B.length ∧ ∀ i, i < A.length → sameB (A.getD i z5) (B.getD i z5) up = true
theorem alikeB_of {A B : List V5} {up : BitVec 64} (h : Al A B up) : alikeB A B up = true := by
  unfold alikeB
  rw [Bool.and_eq_true, decide_eq_true_eq, List.all_eq_true]
  exact ⟨h.1, fun i hi => h.2 i (List.mem_range.1 hi)⟩
theorem wordsB_self (x : V5) : wordsB x x = true := by simp [wordsB]
theorem sameB_self (x : V5) (up : BitVec 64) : sameB x x up = true := by simp [sameB, wordsB_self]
theorem Al.refl (A : List V5) (up : BitVec 64) : Al A A up := ⟨rfl, fun _ _ => sameB_self _ _⟩
end Go.Proofs.Ytcfomhnfhalmaaa
end

section
set_option linter.unusedVariables false
set_option linter.unusedSimpArgs false
set_option maxRecDepth 100000
namespace Go.Proofs.Ytcfomhnfhalmaaa
open Go.RowKit

theorem ir_0 (A0 : Option Addr) (Rt : List RowI) (c : Nat) (L : List V5) (many : Int) (t0 : TypeId) : ∀ r, Is (evT (EG (rws (mkRow A0 L.length 5 (F5 L) :: Rt)) false [] []) 60 (.code (sL (Try.f30.body.getD .skip))) ⟨pat [(0, .ptr 0 0), (1, .rsl 0 L.length c), (2, .int .i64 false many)] r 0 Try.f30.ntmps, ⟨[.cells [.gsl .any 1 0 L.length, .bool true true] t0, .row L.length 5 (F5 L) cvE none], [], (newW 2)⟩⟩ (selK [0, 1, 2, 3, 4] .normal [(0, .ptr 0 0), (4, .ptr 2 0), (5, .ptr 3 0), (6, .ptr 4 0)] Try.f30.ntmps [AIt.cells [.gsl .any 1 0 (List.length L), .bool true true] t0, AIt.row (List.length L) 5 (F5 L) cvE none, AIt.cells [.rsl 0 (List.length L) c] 27, AIt.cells [.int .i64 false many] 3, AIt.cells [.bool true false] 4])) := fun r => ev_selQ (by kernel_rfl)
theorem ir_1 (A0 : Option Addr) (Rt : List RowI) (c : Nat) (L : List V5) (many : Int) (t0 : TypeId) : ∀ r, Is (evT (EG (rws (mkRow A0 L.length 5 (F5 L) :: Rt)) false [] []) 60 (.code (sL (sR (Try.f30.body.getD .skip)))) ⟨pat [(0, .ptr 0 0), (4, .ptr 2 0), (5, .ptr 3 0), (6, .ptr 4 0)] r 0 Try.f30.ntmps, ⟨[.cells [.gsl .any 1 0 L.length, .bool true true] t0, .row L.length 5 (F5 L) cvE none, .cells [.rsl 0 L.length c] 27, .cells [.int .i64 false many] 3, .cells [.bool true false] 4], [], (newW 2)⟩⟩ (selK [0, 1, 2, 3, 4, 5] .normal [(0, .ptr 0 0), (4, .ptr 2 0), (5, .ptr 3 0), (6, .ptr 4 0), (7, .func (.func 75) [.ptr 5 0])] Try.f30.ntmps [AIt.cells [.gsl .any 1 0 (List.length L), .bool true true] t0, AIt.row (List.length L) 5 (F5 L) cvE none, AIt.cells [.rsl 0 (List.length L) c] 27, AIt.cells [.int .i64 false many] 3, AIt.cells [.bool true false] 4, AIt.cells [.gsl .any 1 0 (List.length L)] 27])) := fun r => ev_selQ (by kernel_rfl)
theorem ir_2 (A0 : Option Addr) (Rt : List RowI) (c : Nat) (L : List V5) (many : Int) (t0 : TypeId) (h : AllE [((↑(List.length L) : Int) != (↑(List.length L) : Int), false)]) : ∀ r, Is (evT (EG (rws (mkRow A0 L.length 5 (F5 L) :: Rt)) false [] []) 60 (.code (sL (sR (sR (Try.f30.body.getD .skip))))) ⟨pat [(0, .ptr 0 0), (4, .ptr 2 0), (5, .ptr 3 0), (6, .ptr 4 0), (7, .func (.func 75) [.ptr 5 0])] r 0 Try.f30.ntmps, ⟨[.cells [.gsl .any 1 0 L.length, .bool true true] t0, .row L.length 5 (F5 L) cvE none, .cells [.rsl 0 L.length c] 27, .cells [.int .i64 false many] 3, .cells [.bool true false] 4, .cells [.gsl .any 1 0 L.length] 27], [false], (newW 2)⟩⟩ (selK [0, 1, 2, 3, 4, 5] .normal [(4, .ptr 2 0), (5, .ptr 3 0), (6, .ptr 4 0), (7, .func (.func 75) [.ptr 5 0])] Try.f30.ntmps [AIt.cells [.gsl .any 1 0 (List.length L), .bool true true] t0, AIt.row (List.length L) 5 (F5 L) cvE none, AIt.cells [.rsl 0 (List.length L) c] 27, AIt.cells [.int .i64 false many] 3, AIt.cells [.bool true false] 4, AIt.cells [.gsl .any 1 0 (List.length L)] 27])) := fun r => ev_selP (by kernel_rfl) h
theorem ir_3 (A0 : Option Addr) (Rt : List RowI) (c : Nat) (L : List V5) (many : Int) (t0 : TypeId) : ∀ r, Is (evT (EG (rws (mkRow A0 L.length 5 (F5 L) :: Rt)) false [] []) 60 (.code (sL (sR (sR (sR (Try.f30.body.getD .skip)))))) ⟨pat [(4, .ptr 2 0), (5, .ptr 3 0), (6, .ptr 4 0), (7, .func (.func 75) [.ptr 5 0])] r 0 Try.f30.ntmps, ⟨[.cells [.gsl .any 1 0 L.length, .bool true true] t0, .row L.length 5 (F5 L) cvE none, .cells [.rsl 0 L.length c] 27, .cells [.int .i64 false many] 3, .cells [.bool true false] 4, .cells [.gsl .any 1 0 L.length] 27], [], (newW 2)⟩⟩ (selK [0, 1, 2, 3, 4, 5, 6] .normal [(4, .ptr 2 0), (5, .ptr 3 0), (6, .ptr 4 0), (7, .func (.func 75) [.ptr 5 0]), (8, .ptr 6 0)] Try.f30.ntmps [AIt.cells [.gsl .any 1 0 (List.length L), .bool true true] t0, AIt.row (List.length L) 5 (F5 L) cvE none, AIt.cells [.rsl 0 (List.length L) c] 27, AIt.cells [.int .i64 false many] 3, AIt.cells [.bool true false] 4, AIt.cells [.gsl .any 1 0 (List.length L)] 27, AIt.cells [.int .i64 true 0] 3])) := fun r => ev_selQ (by kernel_rfl)
theorem ir_4 (A0 : Option Addr) (Rt : List RowI) (c : Nat) (L : List V5) (many : Int) (t0 : TypeId) : ∀ r, Is (evT (EG (rws (mkRow A0 L.length 5 (F5 L) :: Rt)) false [] []) 60 (.code (sL (sL (sR (sR (sR (sR (Try.f30.body.getD .skip)))))))) ⟨pat [(4, .ptr 2 0), (5, .ptr 3 0), (6, .ptr 4 0), (7, .func (.func 75) [.ptr 5 0]), (8, .ptr 6 0)] r 0 Try.f30.ntmps, ⟨[.cells [.gsl .any 1 0 L.length, .bool true true] t0, .row L.length 5 (F5 L) cvE none, .cells [.rsl 0 L.length c] 27, .cells [.int .i64 false many] 3, .cells [.bool true false] 4, .cells [.gsl .any 1 0 L.length] 27, .cells [.int .i64 true 0] 3], [], (newW 2)⟩⟩ (selK [0, 1, 2, 3, 4, 5, 6] .normal [(4, .ptr 2 0), (5, .ptr 3 0), (6, .ptr 4 0), (8, .ptr 6 0), (22, .func (.func 75) [.ptr 5 0])] Try.f30.ntmps [AIt.cells [.gsl .any 1 0 (List.length L), .bool true true] t0, AIt.row (List.length L) 5 (F5 L) cvE none, AIt.cells [.rsl 0 (List.length L) c] 27, AIt.cells [.int .i64 false many] 3, AIt.cells [.bool true false] 4, AIt.cells [.gsl .any 1 0 (List.length L)] 27, AIt.cells [.int .i64 true 0] 3])) := fun r => ev_selQ (by kernel_rfl)
theorem ir_6 (A0 : Option Addr) (Rt : List RowI) (c : Nat) (L : List V5) (many : Int) (t0 : TypeId) (k : Int) : ∀ r, Is (evT (EG (rws (mkRow A0 L.length 5 (F5 L) :: Rt)) false [] []) 60 (.code (sR (sR (sR (sR (sR (Try.f30.body.getD .skip))))))) ⟨pat [(4, .ptr 2 0), (6, .ptr 4 0), (5, .ptr 3 0), (8, .ptr 6 0)] r 0 Try.f30.ntmps, ⟨[.cells [.gsl .any 1 0 L.length, .bool true true] t0, .row L.length 5 (F5 L) cvE none, .cells [.rsl 0 L.length c] 27, .cells [.int .i64 false many] 3, .cells [.bool true false] 4, .cells [.gsl .any 1 0 L.length] 27, .cells [.int .i64 false (k)] 3], [], (newW 2)⟩⟩ (selK [0, 1, 2, 3, 4, 5, 6] .ret [(6, .ptr 4 0)] Try.f30.ntmps [AIt.cells [.gsl .any 1 0 (List.length L), .bool true true] t0, AIt.row (List.length L) 5 (F5 L) cvE none, AIt.cells [.rsl 0 (List.length L) c] 27, AIt.cells [.int .i64 false many] 3, AIt.cells [.bool false (k == bif false then if (bif true then if many > 1 then many else 1 else if many < 1 then many else 1) > (↑(List.length L) : Int) then bif true then if many > 1 then many else 1 else if many < 1 then many else 1 else (↑(List.length L) : Int) else if (bif true then if many > 1 then many else 1 else if many < 1 then many else 1) < (↑(List.length L) : Int) then bif true then if many > 1 then many else 1 else if many < 1 then many else 1 else (↑(List.length L) : Int))] 4, AIt.cells [.gsl .any 1 0 (List.length L)] 27, AIt.cells [.int .i64 false k] 3])) := fun r => ev_selQ (by kernel_rfl)
theorem ir_rt (A0 : Option Addr) (Rt : List RowI) (c : Nat) (L : List V5) (many : Int) (t0 : TypeId) (k : Nat) (x : V5) (h : AllE [((↑k : Int) != (↑k : Int), false), (decide ((↑k : Int) ≥ (↑(List.length L) : Int)), false), (decide (0 ≤ IntKind.wrap IntKind.i64 (IntKind.wrap IntKind.i64 ((↑(List.length L) : Int) - 1) - (↑k : Int)) ∧ IntKind.wrap IntKind.i64 (IntKind.wrap IntKind.i64 ((↑(List.length L) : Int) - 1) - (↑k : Int)) < (↑(List.length L) : Int)), true), (true != (V5.a x == V5.a (List.getD L (Int.toNat (IntKind.wrap IntKind.i64 (IntKind.wrap IntKind.i64 ((↑(List.length L) : Int) - 1) - (↑k : Int)))) z5) && (V5.b x == V5.b (List.getD L (Int.toNat (IntKind.wrap IntKind.i64 (IntKind.wrap IntKind.i64 ((↑(List.length L) : Int) - 1) - (↑k : Int)))) z5) && (V5.c x == V5.c (List.getD L (Int.toNat (IntKind.wrap IntKind.i64 (IntKind.wrap IntKind.i64 ((↑(List.length L) : Int) - 1) - (↑k : Int)))) z5) && (V5.d x == V5.d (List.getD L (Int.toNat (IntKind.wrap IntKind.i64 (IntKind.wrap IntKind.i64 ((↑(List.length L) : Int) - 1) - (↑k : Int)))) z5) && (V5.l x == V5.l (List.getD L (Int.toNat (IntKind.wrap IntKind.i64 (IntKind.wrap IntKind.i64 ((↑(List.length L) : Int) - 1) - (↑k : Int)))) z5) && true))))), false), (decide (IntKind.wrap IntKind.i64 ((↑k : Int) + 1) ≥ many), true)]) (r : Nat → Value) : Is (evR (EG (rws (mkRow A0 L.length 5 (F5 L) :: Rt)) false [] []) 60 7 (rgA (sR (sL (sR (sR (sR (sR (Try.f30.body.getD .skip)))))))) (rgB (sR (sL (sR (sR (sR (sR (Try.f30.body.getD .skip)))))))) ⟨setps (pat [(4, .ptr 2 0), (5, .ptr 3 0), (6, .ptr 4 0), (8, .ptr 6 0), (22, .func (.func 75) [.ptr 5 0])] r 0 Try.f30.ntmps) (rgP (sR (sL (sR (sR (sR (sR (Try.f30.body.getD .skip)))))))).toList [.int .i64 true (k : Int), .agg (v5 x)], ⟨[.cells [.gsl .any 1 0 L.length, .bool true true] t0, .row L.length 5 (F5 L) cvE none, .cells [.rsl 0 L.length c] 27, .cells [.int .i64 false many] 3, .cells [.bool true false] 4, .cells [.gsl .any 1 0 L.length] 27, .cells [.int .i64 false ((k : Int))] 3], [false, false, false, true], fun l => newW 2 l && !memN l [1, 5]⟩⟩ (rndK true (rgI (sR (sL (sR (sR (sR (sR (Try.f30.body.getD .skip)))))))) 7 [.cells [.gsl .any 1 0 L.length, .bool true true] t0, .row L.length 5 (F5 L) cvE none, .cells [.rsl 0 L.length c] 27, .cells [.int .i64 false many] 3, .cells [.bool true false] 4, .cells [.gsl .any 1 0 L.length] 27, .cells [.int .i64 false ((IntKind.wrap IntKind.i64 ((k : Int) + 1)))] 3])) := ev_eq [((↑k : Int) != (↑k : Int), false), (decide ((↑k : Int) ≥ (↑(List.length L) : Int)), false), (decide (0 ≤ IntKind.wrap IntKind.i64 (IntKind.wrap IntKind.i64 ((↑(List.length L) : Int) - 1) - (↑k : Int)) ∧ IntKind.wrap IntKind.i64 (IntKind.wrap IntKind.i64 ((↑(List.length L) : Int) - 1) - (↑k : Int)) < (↑(List.length L) : Int)), true), (true != (V5.a x == V5.a (List.getD L (Int.toNat (IntKind.wrap IntKind.i64 (IntKind.wrap IntKind.i64 ((↑(List.length L) : Int) - 1) - (↑k : Int)))) z5) && (V5.b x == V5.b (List.getD L (Int.toNat (IntKind.wrap IntKind.i64 (IntKind.wrap IntKind.i64 ((↑(List.length L) : Int) - 1) - (↑k : Int)))) z5) && (V5.c x == V5.c (List.getD L (Int.toNat (IntKind.wrap IntKind.i64 (IntKind.wrap IntKind.i64 ((↑(List.length L) : Int) - 1) - (↑k : Int)))) z5) && (V5.d x == V5.d (List.getD L (Int.toNat (IntKind.wrap IntKind.i64 (IntKind.wrap IntKind.i64 ((↑(List.length L) : Int) - 1) - (↑k : Int)))) z5) && (V5.l x == V5.l (List.getD L (Int.toNat (IntKind.wrap IntKind.i64 (IntKind.wrap IntKind.i64 ((↑(List.length L) : Int) - 1) - (↑k : Int)))) z5) && true))))), false), (decide (IntKind.wrap IntKind.i64 ((↑k : Int) + 1) ≥ many), true)] (rndR true [.cells [.gsl .any 1 0 L.length, .bool true true] t0, .row L.length 5 (F5 L) cvE none, .cells [.rsl 0 L.length c] 27, .cells [.int .i64 false many] 3, .cells [.bool true false] 4, .cells [.gsl .any 1 0 L.length] 27, .cells [.int .i64 false ((IntKind.wrap IntKind.i64 ((k : Int) + 1)))] 3]) (by kernel_rfl) h
theorem ir_rf (A0 : Option Addr) (Rt : List RowI) (c : Nat) (L : List V5) (many : Int) (t0 : TypeId) (k : Nat) (x : V5) (h : AllE [((↑k : Int) != (↑k : Int), false), (decide ((↑k : Int) ≥ (↑(List.length L) : Int)), false), (decide (0 ≤ IntKind.wrap IntKind.i64 (IntKind.wrap IntKind.i64 ((↑(List.length L) : Int) - 1) - (↑k : Int)) ∧ IntKind.wrap IntKind.i64 (IntKind.wrap IntKind.i64 ((↑(List.length L) : Int) - 1) - (↑k : Int)) < (↑(List.length L) : Int)), true), (true != (V5.a x == V5.a (List.getD L (Int.toNat (IntKind.wrap IntKind.i64 (IntKind.wrap IntKind.i64 ((↑(List.length L) : Int) - 1) - (↑k : Int)))) z5) && (V5.b x == V5.b (List.getD L (Int.toNat (IntKind.wrap IntKind.i64 (IntKind.wrap IntKind.i64 ((↑(List.length L) : Int) - 1) - (↑k : Int)))) z5) && (V5.c x == V5.c (List.getD L (Int.toNat (IntKind.wrap IntKind.i64 (IntKind.wrap IntKind.i64 ((↑(List.length L) : Int) - 1) - (↑k : Int)))) z5) && (V5.d x == V5.d (List.getD L (Int.toNat (IntKind.wrap IntKind.i64 (IntKind.wrap IntKind.i64 ((↑(List.length L) : Int) - 1) - (↑k : Int)))) z5) && (V5.l x == V5.l (List.getD L (Int.toNat (IntKind.wrap IntKind.i64 (IntKind.wrap IntKind.i64 ((↑(List.length L) : Int) - 1) - (↑k : Int)))) z5) && true))))), false), (decide (IntKind.wrap IntKind.i64 ((↑k : Int) + 1) ≥ many), false)]) (r : Nat → Value) : Is (evR (EG (rws (mkRow A0 L.length 5 (F5 L) :: Rt)) false [] []) 60 7 (rgA (sR (sL (sR (sR (sR (sR (Try.f30.body.getD .skip)))))))) (rgB (sR (sL (sR (sR (sR (sR (Try.f30.body.getD .skip)))))))) ⟨setps (pat [(4, .ptr 2 0), (5, .ptr 3 0), (6, .ptr 4 0), (8, .ptr 6 0), (22, .func (.func 75) [.ptr 5 0])] r 0 Try.f30.ntmps) (rgP (sR (sL (sR (sR (sR (sR (Try.f30.body.getD .skip)))))))).toList [.int .i64 true (k : Int), .agg (v5 x)], ⟨[.cells [.gsl .any 1 0 L.length, .bool true true] t0, .row L.length 5 (F5 L) cvE none, .cells [.rsl 0 L.length c] 27, .cells [.int .i64 false many] 3, .cells [.bool true false] 4, .cells [.gsl .any 1 0 L.length] 27, .cells [.int .i64 false ((k : Int))] 3], [false, false, false, false], fun l => newW 2 l && !memN l [1, 5]⟩⟩ (rndK false (rgI (sR (sL (sR (sR (sR (sR (Try.f30.body.getD .skip)))))))) 7 [.cells [.gsl .any 1 0 L.length, .bool true true] t0, .row L.length 5 (F5 L) cvE none, .cells [.rsl 0 L.length c] 27, .cells [.int .i64 false many] 3, .cells [.bool true false] 4, .cells [.gsl .any 1 0 L.length] 27, .cells [.int .i64 false ((IntKind.wrap IntKind.i64 ((k : Int) + 1)))] 3])) := ev_eq [((↑k : Int) != (↑k : Int), false), (decide ((↑k : Int) ≥ (↑(List.length L) : Int)), false), (decide (0 ≤ IntKind.wrap IntKind.i64 (IntKind.wrap IntKind.i64 ((↑(List.length L) : Int) - 1) - (↑k : Int)) ∧ IntKind.wrap IntKind.i64 (IntKind.wrap IntKind.i64 ((↑(List.length L) : Int) - 1) - (↑k : Int)) < (↑(List.length L) : Int)), true), (true != (V5.a x == V5.a (List.getD L (Int.toNat (IntKind.wrap IntKind.i64 (IntKind.wrap IntKind.i64 ((↑(List.length L) : Int) - 1) - (↑k : Int)))) z5) && (V5.b x == V5.b (List.getD L (Int.toNat (IntKind.wrap IntKind.i64 (IntKind.wrap IntKind.i64 ((↑(List.length L) : Int) - 1) - (↑k : Int)))) z5) && (V5.c x == V5.c (List.getD L (Int.toNat (IntKind.wrap IntKind.i64 (IntKind.wrap IntKind.i64 ((↑(List.length L) : Int) - 1) - (↑k : Int)))) z5) && (V5.d x == V5.d (List.getD L (Int.toNat (IntKind.wrap IntKind.i64 (IntKind.wrap IntKind.i64 ((↑(List.length L) : Int) - 1) - (↑k : Int)))) z5) && (V5.l x == V5.l (List.getD L (Int.toNat (IntKind.wrap IntKind.i64 (IntKind.wrap IntKind.i64 ((↑(List.length L) : Int) - 1) - (↑k : Int)))) z5) && true))))), false), (decide (IntKind.wrap IntKind.i64 ((↑k : Int) + 1) ≥ many), false)] (rndR false [.cells [.gsl .any 1 0 L.length, .bool true true] t0, .row L.length 5 (F5 L) cvE none, .cells [.rsl 0 L.length c] 27, .cells [.int .i64 false many] 3, .cells [.bool true false] 4, .cells [.gsl .any 1 0 L.length] 27, .cells [.int .i64 false ((IntKind.wrap IntKind.i64 ((k : Int) + 1)))] 3]) (by kernel_rfl) h
noncomputable def isR (L : List V5) : SmP
  | [.ptr 0 0, .rsl 0 m _, .int .i64 _ _], [.cells [.gsl _ 1 0 n, .bool _ true] _, .row N' 5 F' e' none] => some (.bool false true, [decide (m = L.length), rowIs F' n L, decide (n ≤ N'), decide (n ≤ 1000), decide (e' = cvE)])
  | _, _ => none
theorem rev_x2 {L : List V5} {k : Nat} {x : V5} (h : L.reverse[k]? = some x) : k < L.length ∧ L.getD (L.length - 1 - k) z5 = x := by
  have hk := rev_get h
  refine ⟨hk, ?_⟩
  rw [List.getElem?_reverse hk] at h
  rw [List.getD_eq_getElem?_getD, h]; rfl
set_option maxHeartbeats 2000000 in
theorem isR_ok (A0 : Option Addr) (Rt : List RowI) (L : List V5) (hR : RwOK (rws (mkRow A0 L.length 5 (F5 L) :: Rt))) (hRp : ∀ j r, (rws (mkRow A0 L.length 5 (F5 L) :: Rt)) j = some r → 0 < r.n → 0 < (r.V 0).length) : GoodP Try.prog (rws (mkRow A0 L.length 5 (F5 L) :: Rt)) 30 (isR L) := by
  refine ⟨enters_of Try.func30 (by kernel_rfl) rfl, fun args H v cs h hcs => ?_⟩
  unfold isR at h
  split at h
  case h_2 => cases h
  rename_i m c l many k' n l2 t0 N' F' e'
  cases h
  simp only [List.mem_cons, List.not_mem_nil, or_false, forall_eq_or_imp, forall_eq] at hcs
  obtain ⟨c1, c2, c4, c5, c7⟩ := hcs
  have c1 := of_decide_eq_true c1
  have c4 := of_decide_eq_true c4
  have c5 := of_decide_eq_true c5
  have c7 := of_decide_eq_true c7
  obtain ⟨d3, d4⟩ := rowIs_spec c2
  subst c1 c7
  subst d3
  refine ⟨.bool true, rfl, fun Hr w Args hA hB hn hO => ?_⟩
  have hE := EG_ok (R := (rws (mkRow A0 L.length 5 (F5 L) :: Rt))) hR false good_nil goodM_nil
  refine ev_enterH (E := EG (rws (mkRow A0 L.length 5 (F5 L) :: Rt)) false [] []) (fn := Try.f30) (c := (Try.f30.body.getD .skip)) Try.func30 (by kernel_rfl) (args := [.ptr 0 0, .rsl 0 L.length c, .int .i64 l many]) (show 3 ≤ Try.f30.ntmps by decide) hA hB hn hO (ds := []) (wr := newW 2) fun a0 hP0' hB0' => ?_
  have hl3 : Hr.length = 2 := hB.1
  have hW : wkM [.cells [.gsl k' 1 0 L.length, .bool l2 true] t0, .row N' 5 F' cvE none] [.cells [.gsl .any 1 0 L.length, .bool true true] t0, .row L.length 5 (F5 L) cvE none] := ⟨⟨rfl, wkA_any, wkA_bool, trivial⟩, ⟨c4, rfl, rfl, rfl, d4⟩, trivial⟩
  have hP0 := hP0'.wk (live' := [(0, .ptr 0 0), (1, .rsl 0 L.length c), (2, .int .i64 false many)]) (ds' := []) (wr' := newW 2) ⟨rfl, wkA.refl _, rfl, wkA.refl _, rfl, wkA_int, trivial⟩ hW
  have hB0 := hB0'.wk hW
  refine wp_parts (by kernel_rfl) (ev_codeWS hE 60 [0, 1, 2, 3, 4] .normal (by decide) (by rfl) (ir_0 A0 Rt c L many t0) (wkV.refl _) (wkM.refl _) hP0 hB0 fun a1 Hr1 w1 hP1 hB1 hT1 => ?_)
  refine wp_parts (by kernel_rfl) (ev_codeWS hE 60 [0, 1, 2, 3, 4, 5] .normal (by decide) (by rfl) (ir_1 A0 Rt c L many t0) (wkV.refl _) (wkM.refl _) hP1 hB1 fun a2 Hr2 w2 hP2 hB2 hT2 => ?_)
  refine wp_parts (by kernel_rfl) (ev_codeWS hE 60 [0, 1, 2, 3, 4, 5] .normal (by decide) (by rfl) (ir_2 A0 Rt c L many t0 (allE_cons (by simp) allE_nil)) (wkV.refl _) (wkM.refl _) hP2 hB2 fun a3 Hr3 w3 hP3 hB3 hT3 => ?_)
  refine wp_parts (by kernel_rfl) (ev_codeWS hE 60 [0, 1, 2, 3, 4, 5, 6] .normal (by decide) (by rfl) (ir_3 A0 Rt c L many t0) (wkV.refl _) (wkM.refl _) hP3 hB3 fun a4 Hr4 w4 hP4 hB4 hT4 => ?_)
  refine wp_parts (by kernel_rfl) (wp_parts (by kernel_rfl) (ev_codeWS hE 60 [0, 1, 2, 3, 4, 5, 6] .normal (by decide) (by rfl) (ir_4 A0 Rt c L many t0) (live'' := [(4, .ptr 2 0), (5, .ptr 3 0), (6, .ptr 4 0), (8, .ptr 6 0), (22, .func (.func 75) [.ptr 5 0])]) ⟨rfl, wkA.refl _, rfl, wkA.refl _, rfl, wkA.refl _, rfl, wkA.refl _, rfl, wkA.refl _, trivial⟩ (H'' := [.cells [.gsl .any 1 0 L.length, .bool true true] t0, .row L.length 5 (F5 L) cvE none, .cells [.rsl 0 L.length c] 27, .cells [.int .i64 false many] 3, .cells [.bool true false] 4, .cells [.gsl .any 1 0 L.length] 27, .cells [.int .i64 false (((0 : Nat) : Int))] 3]) ⟨wkI.refl _, wkI.refl _, wkI.refl _, wkI.refl _, wkI.refl _, wkI.refl _, ⟨rfl, wkA_int, trivial⟩, trivial⟩ hP4 hB4 fun a5 Hr5 w5 hP5 hB5 hT5 => ?_))
  have hP5 : PatSt (rws (mkRow A0 L.length 5 (F5 L) :: Rt)) ([].map markD) [(4, .ptr 2 0), (5, .ptr 3 0), (6, .ptr 4 0), (8, .ptr 6 0), (22, .func (.func 75) [.ptr 5 0])] Try.f30.ntmps ⟨[.cells [.gsl .any 1 0 L.length, .bool true true] t0, .row L.length 5 (F5 L) cvE none, .cells [.rsl 0 L.length c] 27, .cells [.int .i64 false many] 3, .cells [.bool true false] 4, .cells [.gsl .any 1 0 L.length] 27, .cells [.int .i64 false (((0 : Nat) : Int))] 3], [], newW 2⟩ a5 Hr5 := hP5
  have hseq : ∀ lb, RelL (rws (mkRow A0 L.length 5 (F5 L) :: Rt)) (nums Hr5) [.ptr 5 0] lb → Seq Try.prog 75 lb.toArray tpEnc L.reverse (Sfz [1, 5] Hr5 w5) w5 := fun lb hlb => by
    obtain ⟨rs, vs, _, _, hBl, hnd⟩ := hP5
    cases hlb with | cons h1 h2 =>
    cases h2
    obtain ⟨q, hq, rfl⟩ := rel_ptr h1
    obtain ⟨p6, hp6, rfl⟩ := nums_at hq
    have hph6 := hBl.cph (l := 5) rfl hp6
    have r6 := hBl.2 5 _ p6 rfl hp6
    obtain ⟨o1, o2⟩ := hB5.own.1 5 _ p6 rfl hp6 hph6
    have s6 := sfz_of (fz := [1, 5]) hBl hnd hB5.own.1 rfl (l := 5) rfl hp6 hph6 rfl
    obtain ⟨p2, hp2⟩ : ∃ p2, Hr5[1]? = some p2 := ⟨_, List.getElem?_eq_getElem (by rw [hBl.1]; show 1 < 7; decide)⟩
    have r2 := hBl.2 1 _ p2 rfl hp2
    have hrow : ∀ ρ, RelI noRows ρ (.row L.length 5 (F5 L) cvE none) p2 := fun ρ => by
      cases hLl : L.length with
      | zero =>
        rw [hLl] at r2
        cases r2 with
        | row x1 x2 x3 x4 x5 => exact .row x1 x2 x3 x4 x5
        | row0 x1 => exact .row0 x1
      | succ j =>
        rw [hLl] at r2
        cases r2 with
        | row x1 x2 x3 x4 x5 => exact .row x1 x2 x3 x4 x5
    cases r6 with | cells hr hph =>
    cases hr with | cons g1 hr =>
    cases hr
    rename_i b6 s6' V6
    refine top1_seq b6 p2 _ V6 L w5 _ (by omega) ?_ (o2 rfl) hrow (fun hph2 => ⟨hB5.own.1 1 _ p2 rfl hp2 hph2 |>.imp id (fun h => h rfl), sfz_of (fz := [1, 5]) hBl hnd hB5.own.1 rfl (l := 1) rfl hp2 hph2 rfl, fun hbb => ?_⟩) s6
    · cases g1 with | gsl hj x1 x2 x3 x4 =>
      have : (nums Hr5)[1]? = some p2.num := nums_get hp2
      rw [this] at hj
      cases hj
      exact .gsl (l := 1) rfl x1 x2 x3 x4
    · have := hnd 1 5 _ _ p2 _ (by decide) rfl rfl rfl rfl hp2 hp6 hph2 hph hbb
      cases this
  have kw : ∀ k, k < L.length → (IntKind.wrap IntKind.i64 ((k : Int) + 1)) = ((k + 1 : Nat) : Int) := fun k hk => by rw [IntKind.wrap_i64]; omega
  refine ev_rangeAt hE 60 (m := ⟨[.cells [.gsl .any 1 0 L.length, .bool true true] t0, .row L.length 5 (F5 L) cvE none, .cells [.rsl 0 L.length c] 27, .cells [.int .i64 false many] 3, .cells [.bool true false] 4, .cells [.gsl .any 1 0 L.length] 27, .cells [.int .i64 false (((0 : Nat) : Int))] 3], [], newW 2⟩) (live := [(4, .ptr 2 0), (5, .ptr 3 0), (6, .ptr 4 0), (8, .ptr 6 0), (22, .func (.func 75) [.ptr 5 0])]) (n := Try.f30.ntmps) (caps := [.ptr 5 0]) (xs := L.reverse) (encs := tpEnc) (by kernel_rfl) (fun _ => by kernel_rfl) (enters_of Try.func75 (by kernel_rfl) rfl) (by kernel_rfl) [1, 5] hseq (fun k x => [.int .i64 true (k : Int), .agg (v5 x)]) (fun k x _ => rfl) (fun _ _ => rfl) (fun k => [.cells [.gsl .any 1 0 L.length, .bool true true] t0, .row L.length 5 (F5 L) cvE none, .cells [.rsl 0 L.length c] 27, .cells [.int .i64 false many] 3, .cells [.bool true false] 4, .cells [.gsl .any 1 0 L.length] 27, .cells [.int .i64 false (((k : Nat) : Int))] 3]) rfl (fun _ => rfl) (fun k => [false, false, false, decide ((IntKind.wrap IntKind.i64 ((k : Int) + 1)) ≥ many)]) (fun k => decide ((IntKind.wrap IntKind.i64 ((k : Int) + 1)) ≥ many))
    (fun k x r hx hbr => ?_) hP5 hB5 fun k a6 Hr6 w6 hEn hP6 hB6 hT6 => ?_
  · obtain ⟨hk, hxx⟩ := rev_x2 hx
    have hi : Int.toNat (IntKind.wrap IntKind.i64 (IntKind.wrap IntKind.i64 ((L.length : Int) - 1) - (k : Int))) = L.length - 1 - k := by simp only [IntKind.wrap_i64]; omega
    have hc1 : (decide (0 ≤ IntKind.wrap IntKind.i64 (IntKind.wrap IntKind.i64 ((↑(List.length L) : Int) - 1) - (↑k : Int)) ∧ IntKind.wrap IntKind.i64 (IntKind.wrap IntKind.i64 ((↑(List.length L) : Int) - 1) - (↑k : Int)) < (↑(List.length L) : Int))) = true := decide_eq_true (by simp only [IntKind.wrap_i64]; omega)
    have hc3 : (true != (V5.a x == V5.a (List.getD L (Int.toNat (IntKind.wrap IntKind.i64 (IntKind.wrap IntKind.i64 ((↑(List.length L) : Int) - 1) - (↑k : Int)))) z5) && (V5.b x == V5.b (List.getD L (Int.toNat (IntKind.wrap IntKind.i64 (IntKind.wrap IntKind.i64 ((↑(List.length L) : Int) - 1) - (↑k : Int)))) z5) && (V5.c x == V5.c (List.getD L (Int.toNat (IntKind.wrap IntKind.i64 (IntKind.wrap IntKind.i64 ((↑(List.length L) : Int) - 1) - (↑k : Int)))) z5) && (V5.d x == V5.d (List.getD L (Int.toNat (IntKind.wrap IntKind.i64 (IntKind.wrap IntKind.i64 ((↑(List.length L) : Int) - 1) - (↑k : Int)))) z5) && (V5.l x == V5.l (List.getD L (Int.toNat (IntKind.wrap IntKind.i64 (IntKind.wrap IntKind.i64 ((↑(List.length L) : Int) - 1) - (↑k : Int)))) z5) && true)))))) = false := by rw [hi, hxx]; simp
    change Is (evR _ _ _ _ _ _ (rndK _ _ _ [.cells [.gsl .any 1 0 L.length, .bool true true] t0, .row L.length 5 (F5 L) cvE none, .cells [.rsl 0 L.length c] 27, .cells [.int .i64 false many] 3, .cells [.bool true false] 4, .cells [.gsl .any 1 0 L.length] 27, .cells [.int .i64 false (((k + 1 : Nat) : Int))] 3]))
    rw [← kw k hk]
    rcases hz : decide ((IntKind.wrap IntKind.i64 ((k : Int) + 1)) ≥ many) with _ | _
    · have hbr := hz
      exact ir_rf A0 Rt c L many t0 k x (allE_cons (by simp) (allE_cons (decide_eq_false (by omega)) (allE_cons hc1 (allE_cons hc3 (allE_cons hbr allE_nil))))) r
    · have hbr := hz
      exact ir_rt A0 Rt c L many t0 k x (allE_cons (by simp) (allE_cons (decide_eq_false (by omega)) (allE_cons hc1 (allE_cons hc3 (allE_cons hbr allE_nil))))) r
  rw [List.length_reverse] at hEn
  have hkn : k ≤ L.length := by rcases hEn with ⟨h1, _⟩ | ⟨_, h1, _⟩ <;> omega
  have hb : ∀ j, j < L.length → (decide ((IntKind.wrap IntKind.i64 ((j : Int) + 1)) ≥ many) = true ↔ many ≤ (j : Int) + 1) := fun j hj => by
    rw [kw j hj]; simp
  have hA : (k = L.length ∧ (0 < L.length → (L.length : Int) < many)) ∨ (0 < k ∧ many ≤ (k : Int) ∧ (2 ≤ k → (k : Int) - 1 < many)) := by
    rcases hEn with ⟨h1, h2⟩ | ⟨h1, h2, h3, h4⟩
    · refine .inl ⟨h1, fun h0 => ?_⟩
      have h5 : decide (IntKind.wrap IntKind.i64 (((L.length - 1 : Nat) : Int) + 1) ≥ many) = false := h2 (L.length - 1) (by omega)
      have h6 := hb (L.length - 1) (by omega)
      have h7 : ¬ many ≤ ((L.length - 1 : Nat) : Int) + 1 := fun h => by rw [h6.2 h] at h5; cases h5
      omega
    · have h6 := (hb (k - 1) (by omega)).1 h3
      refine .inr ⟨h1, by omega, fun h0 => ?_⟩
      have h5 : decide (IntKind.wrap IntKind.i64 (((k - 2 : Nat) : Int) + 1) ≥ many) = false := h4 (k - 2) (by omega)
      have h7 := hb (k - 2) (by omega)
      have h8 : ¬ many ≤ ((k - 2 : Nat) : Int) + 1 := fun h => by rw [h7.2 h] at h5; cases h5
      omega
  have hfx : ((k : Int) == bif false then if (bif true then if many > 1 then many else 1 else if many < 1 then many else 1) > (↑(List.length L) : Int) then bif true then if many > 1 then many else 1 else if many < 1 then many else 1 else (↑(List.length L) : Int) else if (bif true then if many > 1 then many else 1 else if many < 1 then many else 1) < (↑(List.length L) : Int) then bif true then if many > 1 then many else 1 else if many < 1 then many else 1 else (↑(List.length L) : Int)) = true := by
    simp only [cond_true, cond_false, beq_iff_eq]
    repeat' split
    all_goals omega
  have hP6 := hP6.wk (live' := [(4, .ptr 2 0), (5, .ptr 3 0), (6, .ptr 4 0), (8, .ptr 6 0), (22, .func (.func 75) [.ptr 5 0])]) (ds' := []) (wr' := newW 2) (wkV.refl _) (wkM.refl _)
  have hP6 := patSt_live hP6 (live' := [(4, .ptr 2 0), (6, .ptr 4 0), (5, .ptr 3 0), (8, .ptr 6 0)]) (looks_of (by rfl)) (by kernel_rfl)
  refine ev_codeWS hE 60 [0, 1, 2, 3, 4, 5, 6] .ret (by decide) (by rfl) (ir_6 A0 Rt c L many t0 (k : Int)) (wkV.refl _) (H'' := [.cells [.gsl .any 1 0 L.length, .bool true true] t0, .row L.length 5 (F5 L) cvE none, .cells [.rsl 0 L.length c] 27, .cells [.int .i64 false many] 3, .cells [.bool false true] 4, .cells [.gsl .any 1 0 L.length] 27, .cells [.int .i64 false (k : Int)] 3]) ⟨wkI.refl _, wkI.refl _, wkI.refl _, wkI.refl _, ⟨rfl, wkA_boolE hfx, trivial⟩, wkI.refl _, wkI.refl _, trivial⟩ hP6 hB6 fun a7 Hr7 w7 hP7 hB7 hT7 => ?_
  have h15 := (((hT1.trans hT2).trans hT3).trans hT4).trans hT5
  have h17 := (h15.trans hT6).trans hT7
  exact ev_endD hE (Ds := [w5.heap.size]) (Hr0 := Hr) (vs := [.bool false true]) (V := .bool true) (fun rs => by kernel_rfl) rfl hRp hP7 hB7 (by rw [hl3]; exact h17) (fun D hD => by rw [List.mem_singleton.1 hD]; exact h15.size) (.inl rfl)
end Go.Proofs.Ytcfomhnfhalmaaa
end

section
set_option linter.unusedVariables false
set_option linter.unusedSimpArgs false
set_option maxRecDepth 100000
namespace Go.Proofs.Ytcfomhnfhalmaaa
open Go.RowKit

theorem rjg_a (R : Rws) (L : List V5) (at0 : Int) : ∀ r, Is (evT (EG R false [] []) 60 (.code (sL (Try.f60.body.getD .skip))) ⟨pat [(0, .gsl .any 0 0 L.length), (1, .int .i64 false (at0))] r 0 Try.f60.ntmps, ⟨[.row L.length 5 (F5 L) cvE none], [], (newW 1)⟩⟩ (selK [0] .normal [(0, .gsl .any 0 0 (List.length L)), (1, .int .i64 false at0)] Try.f60.ntmps [AIt.row (List.length L) 5 (F5 L) cvE none])) := fun r => ev_selQ (by kernel_rfl)
theorem rjg_b (R : Rws) (L : List V5) (at0 : Int) : ∀ r, Is (evT (EG R false [] []) 60 (.code (sL (sR (Try.f60.body.getD .skip)))) ⟨pat [(0, .gsl .any 0 0 L.length), (1, .int .i64 false (at0))] r 0 Try.f60.ntmps, ⟨[.row L.length 5 (F5 L) cvE none], [], (newW 1)⟩⟩ (selK [0] .normal [(0, .gsl .any 0 0 (List.length L)), (1, .int .i64 false at0), (5, .int .u64 true 0)] Try.f60.ntmps [AIt.row (List.length L) 5 (F5 L) cvE none])) := fun r => ev_selQ (by kernel_rfl)
theorem rjg_c (R : Rws) (L : List V5) (at0 : Int) : ∀ r, Is (evT (EG R false [] []) 60 (.code (sL (sL (sR (sR (Try.f60.body.getD .skip)))))) ⟨pat [(0, .gsl .any 0 0 L.length), (1, .int .i64 false (at0)), (5, .int .u64 true 0)] r 0 Try.f60.ntmps, ⟨[.row L.length 5 (F5 L) cvE none], [], (newW 1)⟩⟩ (selK [0] .normal [(0, .gsl .any 0 0 (List.length L)), (5, .int .u64 true 0), (6, .int .i64 false at0)] Try.f60.ntmps [AIt.row (List.length L) 5 (F5 L) cvE none])) := fun r => ev_selQ (by kernel_rfl)
theorem rjg_l (R : Rws) (L : List V5) (at0 : Int) (a : BitVec 64) (k : Int) (h : AllE [(decide (k < (↑(List.length L) : Int)), true), (decide (0 ≤ k ∧ k < (↑(List.length L) : Int)), true), (decide (0 ≤ (↑0 : Int) + k ∧ (↑0 : Int) + k < (↑(List.length L) : Int)), true)]) : ∀ r, Is (evT (EG R false [] []) 60 (.code (lpB (bkB (sR (sL (sR (sR (Try.f60.body.getD .skip)))))))) ⟨pat [(0, .gsl .any 0 0 L.length), (5, .bv .u64 (a)), (6, .int .i64 false (k))] r 0 Try.f60.ntmps, ⟨[.row L.length 5 (F5 L) cvE none], [true], (newW 1)⟩⟩ (selK [0] .normal [(0, .gsl .any 0 0 (List.length L)), (5, .bv .u64 (a ||| V5.l (List.getD L (Int.toNat ((↑0 : Int) + k)) z5))), (6, .int .i64 false (IntKind.wrap .i64 (k + 1)))] Try.f60.ntmps [AIt.row (List.length L) 5 (F5 L) cvE none])) := fun r => ev_selP (by kernel_rfl) h
theorem rjg_x (R : Rws) (L : List V5) (at0 : Int) (a : BitVec 64) (k : Int) (h : AllE [(decide (k < (↑(List.length L) : Int)), false)]) : ∀ r, Is (evT (EG R false [] []) 60 (.code (lpB (bkB (sR (sL (sR (sR (Try.f60.body.getD .skip)))))))) ⟨pat [(0, .gsl .any 0 0 L.length), (5, .bv .u64 (a)), (6, .int .i64 false (k))] r 0 Try.f60.ntmps, ⟨[.row L.length 5 (F5 L) cvE none], [false], (newW 1)⟩⟩ (selK [0] (.exit 0) [(5, .bv .u64 a)] Try.f60.ntmps [AIt.row (List.length L) 5 (F5 L) cvE none])) := fun r => ev_selP (by kernel_rfl) h
theorem rjg_z (R : Rws) (L : List V5) (at0 : Int) (a : BitVec 64) : ∀ r, Is (evT (EG R false [] []) 60 (.code (sR (sR (sR (Try.f60.body.getD .skip))))) ⟨pat [(5, .bv .u64 a)] r 0 Try.f60.ntmps, ⟨[.row L.length 5 (F5 L) cvE none], [], (newW 1)⟩⟩ (selK [0] .ret [(4, .bv .u64 a)] Try.f60.ntmps [AIt.row (List.length L) 5 (F5 L) cvE none])) := fun r => ev_selQ (by kernel_rfl)
noncomputable def rjGS (L : List V5) : SmP
  | [.gsl _ 0 0 m, .int .i64 _ at0], [.row N 5 F e none] => some (.bv .u64 (joinTo L at0.toNat (m - at0.toNat)), [decide (0 ≤ at0), rowIs F m L, decide (m ≤ N), decide (m ≤ 1000000), decide (e = cvE)])
  | _, _ => none
set_option maxHeartbeats 1000000 in
theorem rjGS_ok {R : Rws} (hR : RwOK R) (hRp : ∀ j r, R j = some r → 0 < r.n → 0 < (r.V 0).length) (L : List V5) : GoodP Try.prog R 60 (rjGS L) := by
  refine ⟨enters_of Try.func60 (by kernel_rfl) rfl, fun args H v cs h hcs => ?_⟩
  unfold rjGS at h
  split at h
  case h_2 => cases h
  rename_i k m l at0 N F e
  cases h
  simp only [List.mem_cons, List.not_mem_nil, or_false, forall_eq_or_imp, forall_eq] at hcs
  obtain ⟨c1, c2, c3, c4, c5⟩ := hcs
  have c1 := of_decide_eq_true c1
  have c3 := of_decide_eq_true c3
  have c4 := of_decide_eq_true c4
  have c5 := of_decide_eq_true c5
  obtain ⟨d1, d2⟩ := rowIs_spec c2
  subst d1 c5
  refine ⟨_, rfl, fun Hr w Args hA hB hn hO => ?_⟩
  have hE := EG_ok (R := R) hR false good_nil goodM_nil
  refine ev_enterH (E := EG R false [] []) (fn := Try.f60) (c := (Try.f60.body.getD .skip)) Try.func60 (by kernel_rfl) (args := [.gsl k 0 0 L.length, .int .i64 l at0]) (show 2 ≤ Try.f60.ntmps by decide) hA hB hn hO (ds := []) (wr := (newW 1)) fun a0 hP0' hB0' => ?_
  have hl3 : Hr.length = 1 := hB.1
  have hW : wkM [.row N 5 F cvE none] [.row L.length 5 (F5 L) cvE none] := ⟨⟨c3, rfl, rfl, rfl, d2⟩, trivial⟩
  have hP0 := hP0'.wk (live' := [(0, .gsl .any 0 0 L.length), (1, .int .i64 false (at0))]) (ds' := []) (wr' := (newW 1)) ⟨rfl, wkA_any, rfl, wkA_int, trivial⟩ hW
  have hB0 := hB0'.wk hW
  refine wp_parts (by kernel_rfl) (ev_codeWS hE 60 [0] .normal (by decide) (by rfl) (rjg_a R L at0) (wkV.refl _) (wkM.refl _) hP0 hB0 fun a1 Hr1 w1 hP1 hB1 hT1 => ?_)
  refine wp_parts (by kernel_rfl) (ev_codeWS hE 60 [0] .normal (by decide) (by rfl) (rjg_b R L at0) (wkV.refl _) (wkM.refl _) hP1 hB1 fun a2 Hr2 w2 hP2 hB2 hT2 => ?_)
  refine wp_parts (by kernel_rfl) (wp_parts (by kernel_rfl) (ev_codeWS hE 60 [0] .normal (by decide) (by rfl) (rjg_c R L at0) (live'' := [(0, .gsl .any 0 0 L.length), (5, .bv .u64 (joinTo L at0.toNat 0)), (6, .int .i64 false (at0 + ((0 : Nat) : Int)))]) ⟨rfl, wkA.refl _, rfl, wkA_bv rfl, rfl, wkA_intE (by simp), trivial⟩ (wkM.refl _) hP2 hB2 fun a3 Hr3 w3 hP3 hB3 hT3 => ?_))
  refine wp_bk (by kernel_rfl) ?_
  refine ev_loopI (by kernel_rfl) (fun Hr' w' => Stp (newW 1) Hr w Hr' w') (L.length - at0.toNat) (.exit 0) rfl (fun k : Nat => [(0, .gsl .any 0 0 L.length), (5, .bv .u64 (joinTo L at0.toNat k)), (6, .int .i64 false (at0 + (k : Int)))]) (fun _ => [.row L.length 5 (F5 L) cvE none]) (live' := [(5, .bv .u64 (joinTo L at0.toNat (L.length - at0.toNat)))]) (H' := [.row L.length 5 (F5 L) cvE none]) (fun k hk a3 Hr3 w3 Q' hP3 hB3 hI hnx => ?_) (fun a3 Hr3 w3 Q' hP3 hB3 hI hnx => ?_) hP3 hB3 ((hT1.trans hT2).trans hT3) fun a4 Hr4 w4 hP4 hB4 hI => ?_
  · have e1 : ((0 : Int) + (at0 + (k : Int))).toNat = at0.toNat + k := by omega
    refine ev_codeWS hE 60 [0] .normal (by decide) (by rfl) (rjg_l R L at0 (joinTo L at0.toNat k) (at0 + (k : Int)) (allE_cons (by first | exact decide_eq_true (by omega) | exact decide_eq_true (by simp only [List.length_map, List.length_range]; omega)) (allE_cons (by first | exact decide_eq_true (by omega) | exact decide_eq_true (by simp only [List.length_map, List.length_range]; omega)) (allE_cons (by first | exact decide_eq_true (by omega) | exact decide_eq_true (by simp only [List.length_map, List.length_range]; omega)) allE_nil)))) (live'' := [(0, .gsl .any 0 0 L.length), (5, .bv .u64 (joinTo L at0.toNat (k + 1))), (6, .int .i64 false (at0 + ((k + 1 : Nat) : Int)))]) ⟨rfl, wkA.refl _, rfl, wkA_eq (by rw [e1]; show _ = AV.bv .u64 (jn (joinTo L at0.toNat k) (L.getD (at0.toNat + k) z5).l); rw [jn_eq]), rfl, wkA_intE (by rw [IntKind.wrap_i64]; omega), trivial⟩ (wkM.refl _) hP3 hB3 fun a4 Hr4 w4 hP4 hB4 hT4 => ?_
    exact hnx _ _ _ hP4 hB4 (hI.trans hT4)
  · refine ev_codeWS hE 60 [0] (.exit 0) (by decide) (by rfl) (rjg_x R L at0 (joinTo L at0.toNat (L.length - at0.toNat)) (at0 + ((L.length - at0.toNat : Nat) : Int)) (allE_cons (by first | exact decide_eq_false (by omega) | exact decide_eq_false (by simp only [List.length_map, List.length_range]; omega)) allE_nil)) (wkV.refl _) (wkM.refl _) hP3 hB3 fun a4 Hr4 w4 hP4 hB4 hT4 => ?_
    exact hnx _ _ _ hP4 hB4 (hI.trans hT4)
  refine ev_codeWS hE 60 [0] .ret (by decide) (by rfl) (rjg_z R L at0 _) (wkV.refl _) (wkM.refl _) hP4 hB4 fun a5 Hr5 w5 hP5 hB5 hT5 => ?_
  exact ev_endD hE (Ds := []) (Hr0 := Hr) (vs := [.bv .u64 (joinTo L at0.toNat (L.length - at0.toNat))]) (fun rs => by kernel_rfl) rfl hRp hP5 hB5 (by rw [hl3]; exact hI.trans hT5) (fun D hD => by cases hD) (.inl rfl)
theorem rjr_a (A0 : Option Addr) (Rt : List RowI) (c : Nat) (L : List V5) (at0 : Int) : ∀ r, Is (evT (EG (rws (mkRow A0 L.length 5 (F5 L) :: Rt)) false [] []) 60 (.code (sL (Try.f60.body.getD .skip))) ⟨pat [(0, .rsl 0 L.length c), (1, .int .i64 false (at0))] r 0 Try.f60.ntmps, ⟨[], [], (newW 0)⟩⟩ (selK [] .normal [(0, .rsl 0 (List.length L) c), (1, .int .i64 false at0)] Try.f60.ntmps [])) := fun r => ev_selQ (by kernel_rfl)
theorem rjr_b (A0 : Option Addr) (Rt : List RowI) (c : Nat) (L : List V5) (at0 : Int) : ∀ r, Is (evT (EG (rws (mkRow A0 L.length 5 (F5 L) :: Rt)) false [] []) 60 (.code (sL (sR (Try.f60.body.getD .skip)))) ⟨pat [(0, .rsl 0 L.length c), (1, .int .i64 false (at0))] r 0 Try.f60.ntmps, ⟨[], [], (newW 0)⟩⟩ (selK [] .normal [(0, .rsl 0 (List.length L) c), (1, .int .i64 false at0), (5, .int .u64 true 0)] Try.f60.ntmps [])) := fun r => ev_selQ (by kernel_rfl)
theorem rjr_c (A0 : Option Addr) (Rt : List RowI) (c : Nat) (L : List V5) (at0 : Int) : ∀ r, Is (evT (EG (rws (mkRow A0 L.length 5 (F5 L) :: Rt)) false [] []) 60 (.code (sL (sL (sR (sR (Try.f60.body.getD .skip)))))) ⟨pat [(0, .rsl 0 L.length c), (1, .int .i64 false (at0)), (5, .int .u64 true 0)] r 0 Try.f60.ntmps, ⟨[], [], (newW 0)⟩⟩ (selK [] .normal [(0, .rsl 0 (List.length L) c), (5, .int .u64 true 0), (6, .int .i64 false at0)] Try.f60.ntmps [])) := fun r => ev_selQ (by kernel_rfl)
theorem rjr_l (A0 : Option Addr) (Rt : List RowI) (c : Nat) (L : List V5) (at0 : Int) (a : BitVec 64) (k : Int) (h : AllE [(decide (k < (↑(List.length L) : Int)), true), (decide (0 ≤ k ∧ k < (↑(List.length L) : Int)), true)]) : ∀ r, Is (evT (EG (rws (mkRow A0 L.length 5 (F5 L) :: Rt)) false [] []) 60 (.code (lpB (bkB (sR (sL (sR (sR (Try.f60.body.getD .skip)))))))) ⟨pat [(0, .rsl 0 L.length c), (5, .bv .u64 (a)), (6, .int .i64 false (k))] r 0 Try.f60.ntmps, ⟨[], [true], (newW 0)⟩⟩ (selK [] .normal [(0, .rsl 0 (List.length L) c), (5, .bv .u64 (a ||| V5.l (List.getD L (Int.toNat k) z5))), (6, .int .i64 false (IntKind.wrap .i64 (k + 1)))] Try.f60.ntmps [])) := fun r => ev_selP (by kernel_rfl) h
theorem rjr_x (A0 : Option Addr) (Rt : List RowI) (c : Nat) (L : List V5) (at0 : Int) (a : BitVec 64) (k : Int) (h : AllE [(decide (k < (↑(List.length L) : Int)), false)]) : ∀ r, Is (evT (EG (rws (mkRow A0 L.length 5 (F5 L) :: Rt)) false [] []) 60 (.code (lpB (bkB (sR (sL (sR (sR (Try.f60.body.getD .skip)))))))) ⟨pat [(0, .rsl 0 L.length c), (5, .bv .u64 (a)), (6, .int .i64 false (k))] r 0 Try.f60.ntmps, ⟨[], [false], (newW 0)⟩⟩ (selK [] (.exit 0) [(5, .bv .u64 a)] Try.f60.ntmps [])) := fun r => ev_selP (by kernel_rfl) h
theorem rjr_z (A0 : Option Addr) (Rt : List RowI) (c : Nat) (L : List V5) (at0 : Int) (a : BitVec 64) : ∀ r, Is (evT (EG (rws (mkRow A0 L.length 5 (F5 L) :: Rt)) false [] []) 60 (.code (sR (sR (sR (Try.f60.body.getD .skip))))) ⟨pat [(5, .bv .u64 a)] r 0 Try.f60.ntmps, ⟨[], [], (newW 0)⟩⟩ (selK [] .ret [(4, .bv .u64 a)] Try.f60.ntmps [])) := fun r => ev_selQ (by kernel_rfl)
noncomputable def rjRS (L : List V5) : SmP
  | [.rsl 0 m _, .int .i64 _ at0], [] => some (.bv .u64 (joinTo L at0.toNat (m - at0.toNat)), [decide (0 ≤ at0), decide (m = L.length), decide (m ≤ 1000000)])
  | _, _ => none
set_option maxHeartbeats 1000000 in
theorem rjRS_ok (A0 : Option Addr) (Rt : List RowI) (L : List V5) (hR : RwOK (rws (mkRow A0 L.length 5 (F5 L) :: Rt))) (hRp : ∀ j r, (rws (mkRow A0 L.length 5 (F5 L) :: Rt)) j = some r → 0 < r.n → 0 < (r.V 0).length) : GoodP Try.prog (rws (mkRow A0 L.length 5 (F5 L) :: Rt)) 60 (rjRS L) := by
  refine ⟨enters_of Try.func60 (by kernel_rfl) rfl, fun args H v cs h hcs => ?_⟩
  unfold rjRS at h
  split at h
  case h_2 => cases h
  rename_i m c l at0
  cases h
  simp only [List.mem_cons, List.not_mem_nil, or_false, forall_eq_or_imp, forall_eq] at hcs
  obtain ⟨c1, c2, c4⟩ := hcs
  have c1 := of_decide_eq_true c1
  have c2 := of_decide_eq_true c2
  have c4 := of_decide_eq_true c4
  subst c2
  refine ⟨_, rfl, fun Hr w Args hA hB hn hO => ?_⟩
  have hE := EG_ok (R := (rws (mkRow A0 L.length 5 (F5 L) :: Rt))) hR false good_nil goodM_nil
  refine ev_enterH (E := EG (rws (mkRow A0 L.length 5 (F5 L) :: Rt)) false [] []) (fn := Try.f60) (c := (Try.f60.body.getD .skip)) Try.func60 (by kernel_rfl) (args := [.rsl 0 L.length c, .int .i64 l at0]) (show 2 ≤ Try.f60.ntmps by decide) hA hB hn hO (ds := []) (wr := (newW 0)) fun a0 hP0' hB0' => ?_
  have hl3 : Hr.length = 0 := hB.1
  have hW : wkM [] [] := trivial
  have hP0 := hP0'.wk (live' := [(0, .rsl 0 L.length c), (1, .int .i64 false (at0))]) (ds' := []) (wr' := (newW 0)) ⟨rfl, wkA.refl _, rfl, wkA_int, trivial⟩ hW
  have hB0 := hB0'.wk hW
  refine wp_parts (by kernel_rfl) (ev_codeWS hE 60 [] .normal (by decide) (by rfl) (rjr_a A0 Rt c L at0) (wkV.refl _) (wkM.refl _) hP0 hB0 fun a1 Hr1 w1 hP1 hB1 hT1 => ?_)
  refine wp_parts (by kernel_rfl) (ev_codeWS hE 60 [] .normal (by decide) (by rfl) (rjr_b A0 Rt c L at0) (wkV.refl _) (wkM.refl _) hP1 hB1 fun a2 Hr2 w2 hP2 hB2 hT2 => ?_)
  refine wp_parts (by kernel_rfl) (wp_parts (by kernel_rfl) (ev_codeWS hE 60 [] .normal (by decide) (by rfl) (rjr_c A0 Rt c L at0) (live'' := [(0, .rsl 0 L.length c), (5, .bv .u64 (joinTo L at0.toNat 0)), (6, .int .i64 false (at0 + ((0 : Nat) : Int)))]) ⟨rfl, wkA.refl _, rfl, wkA_bv rfl, rfl, wkA_intE (by simp), trivial⟩ (wkM.refl _) hP2 hB2 fun a3 Hr3 w3 hP3 hB3 hT3 => ?_))
  refine wp_bk (by kernel_rfl) ?_
  refine ev_loopI (by kernel_rfl) (fun Hr' w' => Stp (newW 0) Hr w Hr' w') (L.length - at0.toNat) (.exit 0) rfl (fun k : Nat => [(0, .rsl 0 L.length c), (5, .bv .u64 (joinTo L at0.toNat k)), (6, .int .i64 false (at0 + (k : Int)))]) (fun _ => []) (live' := [(5, .bv .u64 (joinTo L at0.toNat (L.length - at0.toNat)))]) (H' := []) (fun k hk a3 Hr3 w3 Q' hP3 hB3 hI hnx => ?_) (fun a3 Hr3 w3 Q' hP3 hB3 hI hnx => ?_) hP3 hB3 ((hT1.trans hT2).trans hT3) fun a4 Hr4 w4 hP4 hB4 hI => ?_
  · have e1 : (at0 + (k : Int)).toNat = at0.toNat + k := by omega
    refine ev_codeWS hE 60 [] .normal (by decide) (by rfl) (rjr_l A0 Rt c L at0 (joinTo L at0.toNat k) (at0 + (k : Int)) (allE_cons (by first | exact decide_eq_true (by omega) | exact decide_eq_true (by simp only [List.length_map, List.length_range]; omega)) (allE_cons (by first | exact decide_eq_true (by omega) | exact decide_eq_true (by simp only [List.length_map, List.length_range]; omega)) allE_nil))) (live'' := [(0, .rsl 0 L.length c), (5, .bv .u64 (joinTo L at0.toNat (k + 1))), (6, .int .i64 false (at0 + ((k + 1 : Nat) : Int)))]) ⟨rfl, wkA.refl _, rfl, wkA_eq (by rw [e1]; show _ = AV.bv .u64 (jn (joinTo L at0.toNat k) (L.getD (at0.toNat + k) z5).l); rw [jn_eq]), rfl, wkA_intE (by rw [IntKind.wrap_i64]; omega), trivial⟩ (wkM.refl _) hP3 hB3 fun a4 Hr4 w4 hP4 hB4 hT4 => ?_
    exact hnx _ _ _ hP4 hB4 (hI.trans hT4)
  · refine ev_codeWS hE 60 [] (.exit 0) (by decide) (by rfl) (rjr_x A0 Rt c L at0 (joinTo L at0.toNat (L.length - at0.toNat)) (at0 + ((L.length - at0.toNat : Nat) : Int)) (allE_cons (by first | exact decide_eq_false (by omega) | exact decide_eq_false (by simp only [List.length_map, List.length_range]; omega)) allE_nil)) (wkV.refl _) (wkM.refl _) hP3 hB3 fun a4 Hr4 w4 hP4 hB4 hT4 => ?_
    exact hnx _ _ _ hP4 hB4 (hI.trans hT4)
  refine ev_codeWS hE 60 [] .ret (by decide) (by rfl) (rjr_z A0 Rt c L at0 _) (wkV.refl _) (wkM.refl _) hP4 hB4 fun a5 Hr5 w5 hP5 hB5 hT5 => ?_
  exact ev_endD hE (Ds := []) (Hr0 := Hr) (vs := [.bv .u64 (joinTo L at0.toNat (L.length - at0.toNat))]) (fun rs => by kernel_rfl) rfl hRp hP5 hB5 (by rw [hl3]; exact hI.trans hT5) (fun D hD => by cases hD) (.inl rfl)
end Go.Proofs.Ytcfomhnfhalmaaa
end

section
set_option linter.unusedVariables false
set_option linter.unusedSimpArgs false
set_option maxRecDepth 100000
namespace Go.Proofs.Ytcfomhnfhalmaaa
open Go.RowKit

theorem raise_next2 {L : List V5} {at' k : Nat} {a : BitVec 64} (hk : at' + k < L.length) (i : Nat) (hi : i < L.length) (y : BitVec 64) (hy : y = BitVec.ofInt 64 0 ||| V5.l (List.getD (raiseTo L at' (at' + k) a) (at' + k) z5) ||| a) : putR 5 (F5 (raiseTo L at' (at' + k) a)) (at' + k) 4 [.bv .u64 y] i = F5 (raiseTo L at' (at' + (k + 1)) a) i := by
  subst hy
  exact raise_next hk i hi
theorem rrg_a (R : Rws) (L : List V5) (at0 : Int) (a : BitVec 64) : ∀ r, Is (evT (EG R false [] []) 60 (.code (sL (Try.f61.body.getD .skip))) ⟨pat [(0, .gsl .any 0 0 L.length), (1, .int .i64 false (at0)), (2, .bv .u64 a)] r 0 Try.f61.ntmps, ⟨[.row L.length 5 (F5 L) cvE none], [], (newW 1)⟩⟩ (selK [0] .normal [(0, .gsl .any 0 0 (List.length L)), (1, .int .i64 false at0), (2, .bv .u64 a)] Try.f61.ntmps [AIt.row (List.length L) 5 (F5 L) cvE none])) := fun r => ev_selQ (by kernel_rfl)
theorem rrg_b (R : Rws) (L : List V5) (at0 : Int) (a : BitVec 64) (h : AllE [(decide (List.length L ≤ 1000000), true), (decide (0 + List.length L ≤ List.length L), true)]) : ∀ r, Is (evT (EG R false [] []) 60 (.code (sL (sR (Try.f61.body.getD .skip)))) ⟨pat [(0, .gsl .any 0 0 L.length), (1, .int .i64 false (at0)), (2, .bv .u64 a)] r 0 Try.f61.ntmps, ⟨[.row L.length 5 (F5 L) cvE none], [], (newW 1)⟩⟩ (selK [0, 2] .normal [(1, .int .i64 false at0), (2, .bv .u64 a), (7, .gsl .top 1 0 (List.length L))] Try.f61.ntmps [AIt.row (List.length L) 5 (F5 L) cvE none, .row L.length 5 (fun i => F5 L (0 + i)) cvE none])) := fun r => ev_selP (by kernel_rfl) h
theorem rrg_c (R : Rws) (L : List V5) (at0 : Int) (a : BitVec 64) (M : List V5) : ∀ r, Is (evT (EG R false [] []) 60 (.code (sL (sL (sR (sR (Try.f61.body.getD .skip)))))) ⟨pat [(1, .int .i64 false (at0)), (2, .bv .u64 a), (7, .gsl .top 1 0 M.length)] r 0 Try.f61.ntmps, ⟨[.row L.length 5 (F5 L) cvE none, .row M.length 5 (F5 M) cvE none], [], (newW 1)⟩⟩ (selK [0, 1] .normal [(2, .bv .u64 a), (7, .gsl .top 1 0 (List.length M)), (8, .int .i64 false at0)] Try.f61.ntmps [AIt.row (List.length L) 5 (F5 L) cvE none, AIt.row (List.length M) 5 (F5 M) cvE none])) := fun r => ev_selQ (by kernel_rfl)
theorem rrg_l (R : Rws) (L : List V5) (at0 : Int) (a : BitVec 64) (M : List V5) (k : Int) (h : AllE [(decide (k < (↑(List.length M) : Int)), true), (decide (0 ≤ k ∧ k < (↑(List.length M) : Int)), true), (decide (0 ≤ (↑0 : Int) + k ∧ (↑0 : Int) + k < (↑(List.length M) : Int)), true), (decide (0 ≤ k ∧ k < (↑(List.length M) : Int)), true), (decide (0 ≤ (↑0 : Int) + k ∧ (↑0 : Int) + k < (↑(List.length M) : Int)), true)]) : ∀ r, Is (evT (EG R false [] []) 60 (.code (lpB (bkB (sR (sL (sR (sR (Try.f61.body.getD .skip)))))))) ⟨pat [(2, .bv .u64 a), (7, .gsl .top 1 0 M.length), (8, .int .i64 false (k))] r 0 Try.f61.ntmps, ⟨[.row L.length 5 (F5 L) cvE none, .row M.length 5 (F5 M) cvE none], [true], (newW 1)⟩⟩ (selK [0, 1] .normal [(2, .bv .u64 a), (7, .gsl .top 1 0 (List.length M)), (8, .int .i64 false (IntKind.wrap .i64 (k + 1)))] Try.f61.ntmps [AIt.row (List.length L) 5 (F5 L) cvE none, .row M.length 5 (putR 5 (F5 M) (Int.toNat ((0 : Int) + k)) 4 [.bv .u64 (V5.l (List.getD M (Int.toNat ((0 : Int) + k)) z5) ||| a)]) cvE none])) := fun r => ev_selP (by kernel_rfl) h
theorem rrg_x (R : Rws) (L : List V5) (at0 : Int) (a : BitVec 64) (M : List V5) (k : Int) (h : AllE [(decide (k < (↑(List.length M) : Int)), false)]) : ∀ r, Is (evT (EG R false [] []) 60 (.code (lpB (bkB (sR (sL (sR (sR (Try.f61.body.getD .skip)))))))) ⟨pat [(2, .bv .u64 a), (7, .gsl .top 1 0 M.length), (8, .int .i64 false (k))] r 0 Try.f61.ntmps, ⟨[.row L.length 5 (F5 L) cvE none, .row M.length 5 (F5 M) cvE none], [false], (newW 1)⟩⟩ (selK [0, 1] (.exit 0) [(7, .gsl .top 1 0 (List.length M))] Try.f61.ntmps [AIt.row (List.length L) 5 (F5 L) cvE none, AIt.row (List.length M) 5 (F5 M) cvE none])) := fun r => ev_selP (by kernel_rfl) h
theorem rrg_z (R : Rws) (L : List V5) (at0 : Int) (a : BitVec 64) (M : List V5) : ∀ r, Is (evT (EG R false [] []) 60 (.code (sR (sR (sR (Try.f61.body.getD .skip))))) ⟨pat [(7, .gsl .top 1 0 M.length)] r 0 Try.f61.ntmps, ⟨[.row L.length 5 (F5 L) cvE none, .row M.length 5 (F5 M) cvE none], [], (newW 1)⟩⟩ (selK [0, 1] .ret [(6, .gsl .top 1 0 (List.length M))] Try.f61.ntmps [AIt.row (List.length L) 5 (F5 L) cvE none, AIt.row (List.length M) 5 (F5 M) cvE none])) := fun r => ev_selQ (by kernel_rfl)
noncomputable def rrGS (L : List V5) : SmF
  | [.gsl _ 0 0 m, .int .i64 _ at0, .bv .u64 a], [.row N 5 F e none] => some (.gsl .any 1 0 m, [.row m 5 (F5 L) e none, .row m 5 (F5 (raiseTo L at0.toNat m a)) cvE none], [decide (0 ≤ at0), rowIs F m L, decide (m ≤ N), decide (m ≤ 1000000), decide (e = cvE)])
  | _, _ => none
set_option maxHeartbeats 1000000 in
theorem rrGS_ok {R : Rws} (hR : RwOK R) (L : List V5) : GoodR Try.prog R 61 (rrGS L) := by
  refine ⟨enters_of Try.func61 (by kernel_rfl) rfl, fun args H v H' cs h hcs Hr w Args hA hB hn hO => ?_⟩
  unfold rrGS at h
  split at h
  case h_2 => cases h
  rename_i k m l at0 a N F e
  cases h
  simp only [List.mem_cons, List.not_mem_nil, or_false, forall_eq_or_imp, forall_eq] at hcs
  obtain ⟨c1, c2, c3, c4, c5⟩ := hcs
  have c1 := of_decide_eq_true c1
  have c3 := of_decide_eq_true c3
  have c4 := of_decide_eq_true c4
  have c5 := of_decide_eq_true c5
  obtain ⟨d1, d2⟩ := rowIs_spec c2
  subst d1 c5
  have hE := EG_ok (R := R) hR false good_nil goodM_nil
  refine ev_enterH (E := EG R false [] []) (fn := Try.f61) (c := (Try.f61.body.getD .skip)) Try.func61 (by kernel_rfl) (args := [.gsl k 0 0 L.length, .int .i64 l at0, .bv .u64 a]) (show 3 ≤ Try.f61.ntmps by decide) hA hB hn hO (ds := []) (wr := (newW 1)) fun a0 hP0' hB0' => ?_
  have hW : wkM [.row N 5 F cvE none] [.row L.length 5 (F5 L) cvE none] := ⟨⟨c3, rfl, rfl, rfl, d2⟩, trivial⟩
  have hP0 := hP0'.wk (live' := [(0, .gsl .any 0 0 L.length), (1, .int .i64 false (at0)), (2, .bv .u64 a)]) (ds' := []) (wr' := (newW 1)) ⟨rfl, wkA_any, rfl, wkA_int, rfl, wkA.refl _, trivial⟩ hW
  have hB0 := hB0'.wk hW
  have hz := raise_zero L at0.toNat a
  have hl : ∀ k, (raiseTo L at0.toNat k a).length = L.length := fun k => raise_len L _ _ _
  refine wp_parts (by kernel_rfl) (ev_codeWS hE 60 [0] .normal (by decide) (by rfl) (rrg_a R L at0 a) (wkV.refl _) (wkM.refl _) hP0 hB0 fun a1 Hr1 w1 hP1 hB1 hT1 => ?_)
  refine wp_parts (by kernel_rfl) (ev_codeWS hE 60 [0, 2] .normal (by decide) (by rfl) (rrg_b R L at0 a (allE_cons (by first | exact decide_eq_true (by omega) | exact decide_eq_true (by simp only [List.length_map, List.length_range]; omega)) (allE_cons (by first | exact decide_eq_true (by omega) | exact decide_eq_true (by simp only [List.length_map, List.length_range]; omega)) allE_nil))) (live'' := [(1, .int .i64 false (at0)), (2, .bv .u64 a), (7, .gsl .top 1 0 L.length)]) ⟨rfl, wkA.refl _, rfl, wkA.refl _, rfl, wkA.refl _, trivial⟩ (H'' := [.row L.length 5 (F5 L) cvE none, .row L.length 5 (F5 L) cvE none]) ⟨wkI.refl _, wkI_row (Nat.le_refl _) (fun i _ => by rw [Nat.zero_add]), trivial⟩ hP1 hB1 fun a2 Hr2 w2 hP2 hB2 hT2 => ?_)
  refine wp_parts (by kernel_rfl) (wp_parts (by kernel_rfl) (ev_codeWS hE 60 [0, 1] .normal (by decide) (by rfl) (rrg_c R L at0 a L) (live'' := [(2, .bv .u64 a), (7, .gsl .top 1 0 L.length), (8, .int .i64 false (at0 + ((0 : Nat) : Int)))]) ⟨rfl, wkA.refl _, rfl, wkA.refl _, rfl, wkA_intE (by simp), trivial⟩ (H'' := [.row L.length 5 (F5 L) cvE none, .row L.length 5 (F5 (raiseTo L at0.toNat (at0.toNat + 0) a)) cvE none]) ⟨wkI.refl _, wkI_row (Nat.le_refl _) (fun i _ => by rw [Nat.add_zero, hz]), trivial⟩ hP2 hB2 fun a3 Hr3 w3 hP3 hB3 hT3 => ?_))
  refine wp_bk (by kernel_rfl) ?_
  refine ev_loopI (by kernel_rfl) (fun Hr' w' => Stp (newW 1) Hr w Hr' w') (L.length - at0.toNat) (.exit 0) rfl (fun k : Nat => [(2, .bv .u64 a), (7, .gsl .top 1 0 L.length), (8, .int .i64 false (at0 + (k : Int)))]) (fun k : Nat => [.row L.length 5 (F5 L) cvE none, .row L.length 5 (F5 (raiseTo L at0.toNat (at0.toNat + k) a)) cvE none]) (live' := [(7, .gsl .top 1 0 L.length)]) (H' := [.row L.length 5 (F5 L) cvE none, .row L.length 5 (F5 (raiseTo L at0.toNat (at0.toNat + (L.length - at0.toNat)) a)) cvE none]) (fun k hk a3 Hr3 w3 Q' hP3 hB3 hI hnx => ?_) (fun a3 Hr3 w3 Q' hP3 hB3 hI hnx => ?_) hP3 hB3 ((hT1.trans hT2).trans hT3) fun a4 Hr4 w4 hP4 hB4 hI => ?_
  · have e1 : ((0 : Int) + (at0 + (k : Int))).toNat = at0.toNat + k := by omega
    have e2 := hl (at0.toNat + k)
    have hP3 := hP3.wk (live' := [(2, .bv .u64 a), (7, .gsl .top 1 0 (raiseTo L at0.toNat (at0.toNat + k) a).length), (8, .int .i64 false (at0 + ((k : Nat) : Int)))]) (ds' := []) (wr' := allW) ⟨rfl, wkA.refl _, rfl, wkA_eq (by rw [e2]), rfl, wkA.refl _, trivial⟩ (H' := [.row L.length 5 (F5 L) cvE none, .row (raiseTo L at0.toNat (at0.toNat + k) a).length 5 (F5 (raiseTo L at0.toNat (at0.toNat + k) a)) cvE none]) ⟨wkI.refl _, wkI_row (Nat.le_of_eq e2) (fun i _ => rfl), trivial⟩
    have hB3 := hB3.wk (H' := [.row L.length 5 (F5 L) cvE none, .row (raiseTo L at0.toNat (at0.toNat + k) a).length 5 (F5 (raiseTo L at0.toNat (at0.toNat + k) a)) cvE none]) ⟨wkI.refl _, wkI_row (Nat.le_of_eq e2) (fun i _ => rfl), trivial⟩
    refine ev_codeWS hE 60 [0, 1] .normal (by decide) (by rfl) (rrg_l R L at0 a (raiseTo L at0.toNat (at0.toNat + k) a) (at0 + (k : Int)) (allE_cons (by first | exact decide_eq_true (by omega) | exact decide_eq_true (by simp only [List.length_map, List.length_range]; omega)) (allE_cons (by first | exact decide_eq_true (by omega) | exact decide_eq_true (by simp only [List.length_map, List.length_range]; omega)) (allE_cons (by first | exact decide_eq_true (by omega) | exact decide_eq_true (by simp only [List.length_map, List.length_range]; omega)) (allE_cons (by first | exact decide_eq_true (by omega) | exact decide_eq_true (by simp only [List.length_map, List.length_range]; omega)) (allE_cons (by first | exact decide_eq_true (by omega) | exact decide_eq_true (by simp only [List.length_map, List.length_range]; omega)) allE_nil)))))) (live'' := [(2, .bv .u64 a), (7, .gsl .top 1 0 L.length), (8, .int .i64 false (at0 + ((k + 1 : Nat) : Int)))]) ⟨rfl, wkA.refl _, rfl, wkA_eq (by rw [e2]), rfl, wkA_intE (by rw [IntKind.wrap_i64]; omega), trivial⟩ (H'' := [.row L.length 5 (F5 L) cvE none, .row L.length 5 (F5 (raiseTo L at0.toNat (at0.toNat + (k + 1)) a)) cvE none]) ⟨wkI.refl _, wkI_row (Nat.le_of_eq e2.symm) (fun i hi => by rw [e1]; exact raise_next2 (by omega) i hi _ (jn_eq _ _).symm), trivial⟩ hP3 hB3 fun a4 Hr4 w4 hP4 hB4 hT4 => ?_
    exact hnx _ _ _ hP4 hB4 (hI.trans hT4)
  · have e2 := hl (at0.toNat + (L.length - at0.toNat))
    have hP3 := hP3.wk (live' := [(2, .bv .u64 a), (7, .gsl .top 1 0 (raiseTo L at0.toNat (at0.toNat + (L.length - at0.toNat)) a).length), (8, .int .i64 false (at0 + (((L.length - at0.toNat) : Nat) : Int)))]) (ds' := []) (wr' := allW) ⟨rfl, wkA.refl _, rfl, wkA_eq (by rw [e2]), rfl, wkA.refl _, trivial⟩ (H' := [.row L.length 5 (F5 L) cvE none, .row (raiseTo L at0.toNat (at0.toNat + (L.length - at0.toNat)) a).length 5 (F5 (raiseTo L at0.toNat (at0.toNat + (L.length - at0.toNat)) a)) cvE none]) ⟨wkI.refl _, wkI_row (Nat.le_of_eq e2) (fun i _ => rfl), trivial⟩
    have hB3 := hB3.wk (H' := [.row L.length 5 (F5 L) cvE none, .row (raiseTo L at0.toNat (at0.toNat + (L.length - at0.toNat)) a).length 5 (F5 (raiseTo L at0.toNat (at0.toNat + (L.length - at0.toNat)) a)) cvE none]) ⟨wkI.refl _, wkI_row (Nat.le_of_eq e2) (fun i _ => rfl), trivial⟩
    refine ev_codeWS hE 60 [0, 1] (.exit 0) (by decide) (by rfl) (rrg_x R L at0 a (raiseTo L at0.toNat (at0.toNat + (L.length - at0.toNat)) a) (at0 + ((L.length - at0.toNat) : Nat)) (allE_cons (by first | exact decide_eq_false (by omega) | exact decide_eq_false (by simp only [List.length_map, List.length_range]; omega)) allE_nil)) (live'' := [(7, .gsl .top 1 0 L.length)]) ⟨rfl, wkA_eq (by rw [e2]), trivial⟩ (H'' := [.row L.length 5 (F5 L) cvE none, .row L.length 5 (F5 (raiseTo L at0.toNat (at0.toNat + (L.length - at0.toNat)) a)) cvE none]) ⟨wkI.refl _, wkI_row (Nat.le_of_eq e2.symm) (fun i _ => rfl), trivial⟩ hP3 hB3 fun a4 Hr4 w4 hP4 hB4 hT4 => ?_
    exact hnx _ _ _ hP4 hB4 (hI.trans hT4)
  have e3 : raiseTo L at0.toNat (at0.toNat + (L.length - at0.toNat)) a = raiseTo L at0.toNat L.length a := mapN_ext fun i hi => by
    by_cases h : at0.toNat ≤ i ∧ i < L.length
    · rw [if_pos h, if_pos (by omega)]
    · rw [if_neg h, if_neg (by omega)]
  have e4 := hl L.length
  have hP4 := hP4.wk (live' := [(7, .gsl .top 1 0 (raiseTo L at0.toNat L.length a).length)]) (ds' := []) (wr' := allW) ⟨rfl, wkA_eq (by rw [e4]), trivial⟩ (H' := [.row L.length 5 (F5 L) cvE none, .row (raiseTo L at0.toNat L.length a).length 5 (F5 (raiseTo L at0.toNat L.length a)) cvE none]) ⟨wkI.refl _, wkI_row (Nat.le_of_eq e4) (fun i _ => by rw [e3]), trivial⟩
  have hB4 := hB4.wk (H' := [.row L.length 5 (F5 L) cvE none, .row (raiseTo L at0.toNat L.length a).length 5 (F5 (raiseTo L at0.toNat L.length a)) cvE none]) ⟨wkI.refl _, wkI_row (Nat.le_of_eq e4) (fun i _ => by rw [e3]), trivial⟩
  refine ev_codeWS hE 60 [0, 1] .ret (by decide) (by rfl) (rrg_z R L at0 a (raiseTo L at0.toNat L.length a)) (live'' := [(6, .gsl .any 1 0 L.length)]) ⟨rfl, wkA.trans wkA_any (wkA_eq (by rw [e4])), trivial⟩ (H'' := [.row L.length 5 (F5 L) cvE none, .row L.length 5 (F5 (raiseTo L at0.toNat L.length a)) cvE none]) ⟨wkI.refl _, wkI_row (Nat.le_of_eq e4.symm) (fun i _ => rfl), trivial⟩ hP4 hB4 fun a5 Hr5 w5 hP5 hB5 hT5 => ?_
  obtain ⟨rr, vv, _, _, hBl, hAp⟩ := id hP5
  exact ev_endR hE (vs := [_]) (fun rs => by kernel_rfl) hP5 hB5 (fun V hv => ⟨V, Hr5, rfl, hv, hBl, hAp, hB5.own, hI.trans hT5⟩) (.inl rfl)
theorem rrr_a (A0 : Option Addr) (Rt : List RowI) (c : Nat) (L : List V5) (at0 : Int) (a : BitVec 64) : ∀ r, Is (evT (EG (rws (mkRow A0 L.length 5 (F5 L) :: Rt)) false [] []) 60 (.code (sL (Try.f61.body.getD .skip))) ⟨pat [(0, .rsl 0 L.length c), (1, .int .i64 false (at0)), (2, .bv .u64 a)] r 0 Try.f61.ntmps, ⟨[], [], (newW 0)⟩⟩ (selK [] .normal [(0, .rsl 0 (List.length L) c), (1, .int .i64 false at0), (2, .bv .u64 a)] Try.f61.ntmps [])) := fun r => ev_selQ (by kernel_rfl)
theorem rrr_b (A0 : Option Addr) (Rt : List RowI) (c : Nat) (L : List V5) (at0 : Int) (a : BitVec 64) (h : AllE [(decide (List.length L ≤ 1000000), true)]) : ∀ r, Is (evT (EG (rws (mkRow A0 L.length 5 (F5 L) :: Rt)) false [] []) 60 (.code (sL (sR (Try.f61.body.getD .skip)))) ⟨pat [(0, .rsl 0 L.length c), (1, .int .i64 false (at0)), (2, .bv .u64 a)] r 0 Try.f61.ntmps, ⟨[], [], (newW 0)⟩⟩ (selK [1] .normal [(1, .int .i64 false at0), (2, .bv .u64 a), (7, .gsl .top 0 0 (List.length L))] Try.f61.ntmps [.row L.length 5 (fun i => F5 L ((i : Nat) : Int).toNat) cvE none])) := fun r => ev_selP (by kernel_rfl) h
theorem rrr_c (A0 : Option Addr) (Rt : List RowI) (c : Nat) (L : List V5) (at0 : Int) (a : BitVec 64) (M : List V5) : ∀ r, Is (evT (EG (rws (mkRow A0 L.length 5 (F5 L) :: Rt)) false [] []) 60 (.code (sL (sL (sR (sR (Try.f61.body.getD .skip)))))) ⟨pat [(1, .int .i64 false (at0)), (2, .bv .u64 a), (7, .gsl .top 0 0 M.length)] r 0 Try.f61.ntmps, ⟨[.row M.length 5 (F5 M) cvE none], [], (newW 0)⟩⟩ (selK [0] .normal [(2, .bv .u64 a), (7, .gsl .top 0 0 (List.length M)), (8, .int .i64 false at0)] Try.f61.ntmps [AIt.row (List.length M) 5 (F5 M) cvE none])) := fun r => ev_selQ (by kernel_rfl)
theorem rrr_l (A0 : Option Addr) (Rt : List RowI) (c : Nat) (L : List V5) (at0 : Int) (a : BitVec 64) (M : List V5) (k : Int) (h : AllE [(decide (k < (↑(List.length M) : Int)), true), (decide (0 ≤ k ∧ k < (↑(List.length M) : Int)), true), (decide (0 ≤ (↑0 : Int) + k ∧ (↑0 : Int) + k < (↑(List.length M) : Int)), true), (decide (0 ≤ k ∧ k < (↑(List.length M) : Int)), true), (decide (0 ≤ (↑0 : Int) + k ∧ (↑0 : Int) + k < (↑(List.length M) : Int)), true)]) : ∀ r, Is (evT (EG (rws (mkRow A0 L.length 5 (F5 L) :: Rt)) false [] []) 60 (.code (lpB (bkB (sR (sL (sR (sR (Try.f61.body.getD .skip)))))))) ⟨pat [(2, .bv .u64 a), (7, .gsl .top 0 0 M.length), (8, .int .i64 false (k))] r 0 Try.f61.ntmps, ⟨[.row M.length 5 (F5 M) cvE none], [true], (newW 0)⟩⟩ (selK [0] .normal [(2, .bv .u64 a), (7, .gsl .top 0 0 (List.length M)), (8, .int .i64 false (IntKind.wrap .i64 (k + 1)))] Try.f61.ntmps [.row M.length 5 (putR 5 (F5 M) (Int.toNat ((0 : Int) + k)) 4 [.bv .u64 (V5.l (List.getD M (Int.toNat ((0 : Int) + k)) z5) ||| a)]) cvE none])) := fun r => ev_selP (by kernel_rfl) h
theorem rrr_x (A0 : Option Addr) (Rt : List RowI) (c : Nat) (L : List V5) (at0 : Int) (a : BitVec 64) (M : List V5) (k : Int) (h : AllE [(decide (k < (↑(List.length M) : Int)), false)]) : ∀ r, Is (evT (EG (rws (mkRow A0 L.length 5 (F5 L) :: Rt)) false [] []) 60 (.code (lpB (bkB (sR (sL (sR (sR (Try.f61.body.getD .skip)))))))) ⟨pat [(2, .bv .u64 a), (7, .gsl .top 0 0 M.length), (8, .int .i64 false (k))] r 0 Try.f61.ntmps, ⟨[.row M.length 5 (F5 M) cvE none], [false], (newW 0)⟩⟩ (selK [0] (.exit 0) [(7, .gsl .top 0 0 (List.length M))] Try.f61.ntmps [AIt.row (List.length M) 5 (F5 M) cvE none])) := fun r => ev_selP (by kernel_rfl) h
theorem rrr_z (A0 : Option Addr) (Rt : List RowI) (c : Nat) (L : List V5) (at0 : Int) (a : BitVec 64) (M : List V5) : ∀ r, Is (evT (EG (rws (mkRow A0 L.length 5 (F5 L) :: Rt)) false [] []) 60 (.code (sR (sR (sR (Try.f61.body.getD .skip))))) ⟨pat [(7, .gsl .top 0 0 M.length)] r 0 Try.f61.ntmps, ⟨[.row M.length 5 (F5 M) cvE none], [], (newW 0)⟩⟩ (selK [0] .ret [(6, .gsl .top 0 0 (List.length M))] Try.f61.ntmps [AIt.row (List.length M) 5 (F5 M) cvE none])) := fun r => ev_selQ (by kernel_rfl)
noncomputable def rrRS (L : List V5) : SmF
  | [.rsl 0 m _, .int .i64 _ at0, .bv .u64 a], [] => some (.gsl .any 0 0 m, [.row m 5 (F5 (raiseTo L at0.toNat m a)) cvE none], [decide (0 ≤ at0), decide (m = L.length), decide (m ≤ 1000000)])
  | _, _ => none
set_option maxHeartbeats 1000000 in
theorem rrRS_ok (A0 : Option Addr) (Rt : List RowI) (L : List V5) (hR : RwOK (rws (mkRow A0 L.length 5 (F5 L) :: Rt))) : GoodR Try.prog (rws (mkRow A0 L.length 5 (F5 L) :: Rt)) 61 (rrRS L) := by
  refine ⟨enters_of Try.func61 (by kernel_rfl) rfl, fun args H v H' cs h hcs Hr w Args hA hB hn hO => ?_⟩
  unfold rrRS at h
  split at h
  case h_2 => cases h
  rename_i m c l at0 a
  cases h
  simp only [List.mem_cons, List.not_mem_nil, or_false, forall_eq_or_imp, forall_eq] at hcs
  obtain ⟨c1, c2, c4⟩ := hcs
  have c1 := of_decide_eq_true c1
  have c2 := of_decide_eq_true c2
  have c4 := of_decide_eq_true c4
  subst c2
  have hE := EG_ok (R := (rws (mkRow A0 L.length 5 (F5 L) :: Rt))) hR false good_nil goodM_nil
  refine ev_enterH (E := EG (rws (mkRow A0 L.length 5 (F5 L) :: Rt)) false [] []) (fn := Try.f61) (c := (Try.f61.body.getD .skip)) Try.func61 (by kernel_rfl) (args := [.rsl 0 L.length c, .int .i64 l at0, .bv .u64 a]) (show 3 ≤ Try.f61.ntmps by decide) hA hB hn hO (ds := []) (wr := (newW 0)) fun a0 hP0' hB0' => ?_
  have hW : wkM [] [] := trivial
  have hP0 := hP0'.wk (live' := [(0, .rsl 0 L.length c), (1, .int .i64 false (at0)), (2, .bv .u64 a)]) (ds' := []) (wr' := (newW 0)) ⟨rfl, wkA.refl _, rfl, wkA_int, rfl, wkA.refl _, trivial⟩ hW
  have hB0 := hB0'.wk hW
  have hz := raise_zero L at0.toNat a
  have hl : ∀ k, (raiseTo L at0.toNat k a).length = L.length := fun k => raise_len L _ _ _
  refine wp_parts (by kernel_rfl) (ev_codeWS hE 60 [] .normal (by decide) (by rfl) (rrr_a A0 Rt c L at0 a) (wkV.refl _) (wkM.refl _) hP0 hB0 fun a1 Hr1 w1 hP1 hB1 hT1 => ?_)
  refine wp_parts (by kernel_rfl) (ev_codeWS hE 60 [1] .normal (by decide) (by rfl) (rrr_b A0 Rt c L at0 a (allE_cons (by first | exact decide_eq_true (by omega) | exact decide_eq_true (by simp only [List.length_map, List.length_range]; omega)) allE_nil)) (live'' := [(1, .int .i64 false (at0)), (2, .bv .u64 a), (7, .gsl .top 0 0 L.length)]) ⟨rfl, wkA.refl _, rfl, wkA.refl _, rfl, wkA.refl _, trivial⟩ (H'' := [.row L.length 5 (F5 L) cvE none]) ⟨wkI_row (Nat.le_refl _) (fun i _ => by rw [Int.toNat_natCast]), trivial⟩ hP1 hB1 fun a2 Hr2 w2 hP2 hB2 hT2 => ?_)
  refine wp_parts (by kernel_rfl) (wp_parts (by kernel_rfl) (ev_codeWS hE 60 [0] .normal (by decide) (by rfl) (rrr_c A0 Rt c L at0 a L) (live'' := [(2, .bv .u64 a), (7, .gsl .top 0 0 L.length), (8, .int .i64 false (at0 + ((0 : Nat) : Int)))]) ⟨rfl, wkA.refl _, rfl, wkA.refl _, rfl, wkA_intE (by simp), trivial⟩ (H'' := [.row L.length 5 (F5 (raiseTo L at0.toNat (at0.toNat + 0) a)) cvE none]) ⟨wkI_row (Nat.le_refl _) (fun i _ => by rw [Nat.add_zero, hz]), trivial⟩ hP2 hB2 fun a3 Hr3 w3 hP3 hB3 hT3 => ?_))
  refine wp_bk (by kernel_rfl) ?_
  refine ev_loopI (by kernel_rfl) (fun Hr' w' => Stp (newW 0) Hr w Hr' w') (L.length - at0.toNat) (.exit 0) rfl (fun k : Nat => [(2, .bv .u64 a), (7, .gsl .top 0 0 L.length), (8, .int .i64 false (at0 + (k : Int)))]) (fun k : Nat => [.row L.length 5 (F5 (raiseTo L at0.toNat (at0.toNat + k) a)) cvE none]) (live' := [(7, .gsl .top 0 0 L.length)]) (H' := [.row L.length 5 (F5 (raiseTo L at0.toNat (at0.toNat + (L.length - at0.toNat)) a)) cvE none]) (fun k hk a3 Hr3 w3 Q' hP3 hB3 hI hnx => ?_) (fun a3 Hr3 w3 Q' hP3 hB3 hI hnx => ?_) hP3 hB3 ((hT1.trans hT2).trans hT3) fun a4 Hr4 w4 hP4 hB4 hI => ?_
  · have e1 : ((0 : Int) + (at0 + (k : Int))).toNat = at0.toNat + k := by omega
    have e2 := hl (at0.toNat + k)
    have hP3 := hP3.wk (live' := [(2, .bv .u64 a), (7, .gsl .top 0 0 (raiseTo L at0.toNat (at0.toNat + k) a).length), (8, .int .i64 false (at0 + ((k : Nat) : Int)))]) (ds' := []) (wr' := allW) ⟨rfl, wkA.refl _, rfl, wkA_eq (by rw [e2]), rfl, wkA.refl _, trivial⟩ (H' := [.row (raiseTo L at0.toNat (at0.toNat + k) a).length 5 (F5 (raiseTo L at0.toNat (at0.toNat + k) a)) cvE none]) ⟨wkI_row (Nat.le_of_eq e2) (fun i _ => rfl), trivial⟩
    have hB3 := hB3.wk (H' := [.row (raiseTo L at0.toNat (at0.toNat + k) a).length 5 (F5 (raiseTo L at0.toNat (at0.toNat + k) a)) cvE none]) ⟨wkI_row (Nat.le_of_eq e2) (fun i _ => rfl), trivial⟩
    refine ev_codeWS hE 60 [0] .normal (by decide) (by rfl) (rrr_l A0 Rt c L at0 a (raiseTo L at0.toNat (at0.toNat + k) a) (at0 + (k : Int)) (allE_cons (by first | exact decide_eq_true (by omega) | exact decide_eq_true (by simp only [List.length_map, List.length_range]; omega)) (allE_cons (by first | exact decide_eq_true (by omega) | exact decide_eq_true (by simp only [List.length_map, List.length_range]; omega)) (allE_cons (by first | exact decide_eq_true (by omega) | exact decide_eq_true (by simp only [List.length_map, List.length_range]; omega)) (allE_cons (by first | exact decide_eq_true (by omega) | exact decide_eq_true (by simp only [List.length_map, List.length_range]; omega)) (allE_cons (by first | exact decide_eq_true (by omega) | exact decide_eq_true (by simp only [List.length_map, List.length_range]; omega)) allE_nil)))))) (live'' := [(2, .bv .u64 a), (7, .gsl .top 0 0 L.length), (8, .int .i64 false (at0 + ((k + 1 : Nat) : Int)))]) ⟨rfl, wkA.refl _, rfl, wkA_eq (by rw [e2]), rfl, wkA_intE (by rw [IntKind.wrap_i64]; omega), trivial⟩ (H'' := [.row L.length 5 (F5 (raiseTo L at0.toNat (at0.toNat + (k + 1)) a)) cvE none]) ⟨wkI_row (Nat.le_of_eq e2.symm) (fun i hi => by rw [e1]; exact raise_next2 (by omega) i hi _ (jn_eq _ _).symm), trivial⟩ hP3 hB3 fun a4 Hr4 w4 hP4 hB4 hT4 => ?_
    exact hnx _ _ _ hP4 hB4 (hI.trans hT4)
  · have e2 := hl (at0.toNat + (L.length - at0.toNat))
    have hP3 := hP3.wk (live' := [(2, .bv .u64 a), (7, .gsl .top 0 0 (raiseTo L at0.toNat (at0.toNat + (L.length - at0.toNat)) a).length), (8, .int .i64 false (at0 + (((L.length - at0.toNat) : Nat) : Int)))]) (ds' := []) (wr' := allW) ⟨rfl, wkA.refl _, rfl, wkA_eq (by rw [e2]), rfl, wkA.refl _, trivial⟩ (H' := [.row (raiseTo L at0.toNat (at0.toNat + (L.length - at0.toNat)) a).length 5 (F5 (raiseTo L at0.toNat (at0.toNat + (L.length - at0.toNat)) a)) cvE none]) ⟨wkI_row (Nat.le_of_eq e2) (fun i _ => rfl), trivial⟩
    have hB3 := hB3.wk (H' := [.row (raiseTo L at0.toNat (at0.toNat + (L.length - at0.toNat)) a).length 5 (F5 (raiseTo L at0.toNat (at0.toNat + (L.length - at0.toNat)) a)) cvE none]) ⟨wkI_row (Nat.le_of_eq e2) (fun i _ => rfl), trivial⟩
    refine ev_codeWS hE 60 [0] (.exit 0) (by decide) (by rfl) (rrr_x A0 Rt c L at0 a (raiseTo L at0.toNat (at0.toNat + (L.length - at0.toNat)) a) (at0 + ((L.length - at0.toNat) : Nat)) (allE_cons (by first | exact decide_eq_false (by omega) | exact decide_eq_false (by simp only [List.length_map, List.length_range]; omega)) allE_nil)) (live'' := [(7, .gsl .top 0 0 L.length)]) ⟨rfl, wkA_eq (by rw [e2]), trivial⟩ (H'' := [.row L.length 5 (F5 (raiseTo L at0.toNat (at0.toNat + (L.length - at0.toNat)) a)) cvE none]) ⟨wkI_row (Nat.le_of_eq e2.symm) (fun i _ => rfl), trivial⟩ hP3 hB3 fun a4 Hr4 w4 hP4 hB4 hT4 => ?_
    exact hnx _ _ _ hP4 hB4 (hI.trans hT4)
  have e3 : raiseTo L at0.toNat (at0.toNat + (L.length - at0.toNat)) a = raiseTo L at0.toNat L.length a := mapN_ext fun i hi => by
    by_cases h : at0.toNat ≤ i ∧ i < L.length
    · rw [if_pos h, if_pos (by omega)]
    · rw [if_neg h, if_neg (by omega)]
  have e4 := hl L.length
  have hP4 := hP4.wk (live' := [(7, .gsl .top 0 0 (raiseTo L at0.toNat L.length a).length)]) (ds' := []) (wr' := allW) ⟨rfl, wkA_eq (by rw [e4]), trivial⟩ (H' := [.row (raiseTo L at0.toNat L.length a).length 5 (F5 (raiseTo L at0.toNat L.length a)) cvE none]) ⟨wkI_row (Nat.le_of_eq e4) (fun i _ => by rw [e3]), trivial⟩
  have hB4 := hB4.wk (H' := [.row (raiseTo L at0.toNat L.length a).length 5 (F5 (raiseTo L at0.toNat L.length a)) cvE none]) ⟨wkI_row (Nat.le_of_eq e4) (fun i _ => by rw [e3]), trivial⟩
  refine ev_codeWS hE 60 [0] .ret (by decide) (by rfl) (rrr_z A0 Rt c L at0 a (raiseTo L at0.toNat L.length a)) (live'' := [(6, .gsl .any 0 0 L.length)]) ⟨rfl, wkA.trans wkA_any (wkA_eq (by rw [e4])), trivial⟩ (H'' := [.row L.length 5 (F5 (raiseTo L at0.toNat L.length a)) cvE none]) ⟨wkI_row (Nat.le_of_eq e4.symm) (fun i _ => rfl), trivial⟩ hP4 hB4 fun a5 Hr5 w5 hP5 hB5 hT5 => ?_
  obtain ⟨rr, vv, _, _, hBl, hAp⟩ := id hP5
  exact ev_endR hE (vs := [_]) (fun rs => by kernel_rfl) hP5 hB5 (fun V hv => ⟨V, Hr5, rfl, hv, hBl, hAp, hB5.own, hI.trans hT5⟩) (.inl rfl)
end Go.Proofs.Ytcfomhnfhalmaaa
end
