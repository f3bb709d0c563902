/- Rounds, one by one. No condition. -/
import Derived.Test.YtjlijocnmicdpaaMiC0
set_option linter.unusedVariables false
set_option linter.unusedSimpArgs false
set_option maxRecDepth 100000
namespace Go.Proofs.Ytjlijocnmicdpaa
open Go.RowKit

theorem rnd_10 (v m : Nat → BitVec 64) : Is (evCall EC 60 24 [.ptr 0 0, .agg (cB m), .int .i64 true 10] ⟨[.cells (cB v) 56], [], allW⟩ (updK 56 (.tuple []) (cB (roundB v m 0)))) := ev_eq [] ((.tuple [], [AIt.cells (cB (roundB v m 0)) 56]) : AV × Mem) (by kernel_rfl) trivial
theorem rrnd_10 (v m : Nat → BitVec 64) : Is (evCall EC 60 13 [.agg (cB v), .agg (cB m), .int .i64 true 10] ⟨[], [], allW⟩ (fun u _ => u = .agg (cB (roundB v m 0)))) := ev_eq [] (.agg (cB (roundB v m 0)) : AV) (by kernel_rfl) trivial
theorem rnd_11 (v m : Nat → BitVec 64) : Is (evCall EC 60 24 [.ptr 0 0, .agg (cB m), .int .i64 true 11] ⟨[.cells (cB v) 56], [], allW⟩ (updK 56 (.tuple []) (cB (roundB v m 1)))) := ev_eq [] ((.tuple [], [AIt.cells (cB (roundB v m 1)) 56]) : AV × Mem) (by kernel_rfl) trivial
theorem rrnd_11 (v m : Nat → BitVec 64) : Is (evCall EC 60 13 [.agg (cB v), .agg (cB m), .int .i64 true 11] ⟨[], [], allW⟩ (fun u _ => u = .agg (cB (roundB v m 1)))) := ev_eq [] (.agg (cB (roundB v m 1)) : AV) (by kernel_rfl) trivial
theorem rnd_12 (v m : Nat → BitVec 64) : Is (evCall EC 60 24 [.ptr 0 0, .agg (cB m), .int .i64 true 12] ⟨[.cells (cB v) 56], [], allW⟩ (updK 56 (.tuple []) (cB (roundB v m 2)))) := ev_eq [] ((.tuple [], [AIt.cells (cB (roundB v m 2)) 56]) : AV × Mem) (by kernel_rfl) trivial
theorem rrnd_12 (v m : Nat → BitVec 64) : Is (evCall EC 60 13 [.agg (cB v), .agg (cB m), .int .i64 true 12] ⟨[], [], allW⟩ (fun u _ => u = .agg (cB (roundB v m 2)))) := ev_eq [] (.agg (cB (roundB v m 2)) : AV) (by kernel_rfl) trivial
theorem rnd_13 (v m : Nat → BitVec 64) : Is (evCall EC 60 24 [.ptr 0 0, .agg (cB m), .int .i64 true 13] ⟨[.cells (cB v) 56], [], allW⟩ (updK 56 (.tuple []) (cB (roundB v m 3)))) := ev_eq [] ((.tuple [], [AIt.cells (cB (roundB v m 3)) 56]) : AV × Mem) (by kernel_rfl) trivial
theorem rrnd_13 (v m : Nat → BitVec 64) : Is (evCall EC 60 13 [.agg (cB v), .agg (cB m), .int .i64 true 13] ⟨[], [], allW⟩ (fun u _ => u = .agg (cB (roundB v m 3)))) := ev_eq [] (.agg (cB (roundB v m 3)) : AV) (by kernel_rfl) trivial
theorem rnd_14 (v m : Nat → BitVec 64) : Is (evCall EC 60 24 [.ptr 0 0, .agg (cB m), .int .i64 true 14] ⟨[.cells (cB v) 56], [], allW⟩ (updK 56 (.tuple []) (cB (roundB v m 4)))) := ev_eq [] ((.tuple [], [AIt.cells (cB (roundB v m 4)) 56]) : AV × Mem) (by kernel_rfl) trivial
theorem rrnd_14 (v m : Nat → BitVec 64) : Is (evCall EC 60 13 [.agg (cB v), .agg (cB m), .int .i64 true 14] ⟨[], [], allW⟩ (fun u _ => u = .agg (cB (roundB v m 4)))) := ev_eq [] (.agg (cB (roundB v m 4)) : AV) (by kernel_rfl) trivial
theorem rnd_15 (v m : Nat → BitVec 64) : Is (evCall EC 60 24 [.ptr 0 0, .agg (cB m), .int .i64 true 15] ⟨[.cells (cB v) 56], [], allW⟩ (updK 56 (.tuple []) (cB (roundB v m 5)))) := ev_eq [] ((.tuple [], [AIt.cells (cB (roundB v m 5)) 56]) : AV × Mem) (by kernel_rfl) trivial
theorem rrnd_15 (v m : Nat → BitVec 64) : Is (evCall EC 60 13 [.agg (cB v), .agg (cB m), .int .i64 true 15] ⟨[], [], allW⟩ (fun u _ => u = .agg (cB (roundB v m 5)))) := ev_eq [] (.agg (cB (roundB v m 5)) : AV) (by kernel_rfl) trivial
theorem rnd_16 (v m : Nat → BitVec 64) : Is (evCall EC 60 24 [.ptr 0 0, .agg (cB m), .int .i64 true 16] ⟨[.cells (cB v) 56], [], allW⟩ (updK 56 (.tuple []) (cB (roundB v m 6)))) := ev_eq [] ((.tuple [], [AIt.cells (cB (roundB v m 6)) 56]) : AV × Mem) (by kernel_rfl) trivial
theorem rrnd_16 (v m : Nat → BitVec 64) : Is (evCall EC 60 13 [.agg (cB v), .agg (cB m), .int .i64 true 16] ⟨[], [], allW⟩ (fun u _ => u = .agg (cB (roundB v m 6)))) := ev_eq [] (.agg (cB (roundB v m 6)) : AV) (by kernel_rfl) trivial
theorem rnd_17 (v m : Nat → BitVec 64) : Is (evCall EC 60 24 [.ptr 0 0, .agg (cB m), .int .i64 true 17] ⟨[.cells (cB v) 56], [], allW⟩ (updK 56 (.tuple []) (cB (roundB v m 7)))) := ev_eq [] ((.tuple [], [AIt.cells (cB (roundB v m 7)) 56]) : AV × Mem) (by kernel_rfl) trivial
theorem rrnd_17 (v m : Nat → BitVec 64) : Is (evCall EC 60 13 [.agg (cB v), .agg (cB m), .int .i64 true 17] ⟨[], [], allW⟩ (fun u _ => u = .agg (cB (roundB v m 7)))) := ev_eq [] (.agg (cB (roundB v m 7)) : AV) (by kernel_rfl) trivial
theorem rnd_18 (v m : Nat → BitVec 64) : Is (evCall EC 60 24 [.ptr 0 0, .agg (cB m), .int .i64 true 18] ⟨[.cells (cB v) 56], [], allW⟩ (updK 56 (.tuple []) (cB (roundB v m 8)))) := ev_eq [] ((.tuple [], [AIt.cells (cB (roundB v m 8)) 56]) : AV × Mem) (by kernel_rfl) trivial
theorem rrnd_18 (v m : Nat → BitVec 64) : Is (evCall EC 60 13 [.agg (cB v), .agg (cB m), .int .i64 true 18] ⟨[], [], allW⟩ (fun u _ => u = .agg (cB (roundB v m 8)))) := ev_eq [] (.agg (cB (roundB v m 8)) : AV) (by kernel_rfl) trivial
theorem rnd_19 (v m : Nat → BitVec 64) : Is (evCall EC 60 24 [.ptr 0 0, .agg (cB m), .int .i64 true 19] ⟨[.cells (cB v) 56], [], allW⟩ (updK 56 (.tuple []) (cB (roundB v m 9)))) := ev_eq [] ((.tuple [], [AIt.cells (cB (roundB v m 9)) 56]) : AV × Mem) (by kernel_rfl) trivial
theorem rrnd_19 (v m : Nat → BitVec 64) : Is (evCall EC 60 13 [.agg (cB v), .agg (cB m), .int .i64 true 19] ⟨[], [], allW⟩ (fun u _ => u = .agg (cB (roundB v m 9)))) := ev_eq [] (.agg (cB (roundB v m 9)) : AV) (by kernel_rfl) trivial
end Go.Proofs.Ytjlijocnmicdpaa
