/- Rounds, one by one. No condition. -/
import Derived.Test.YtjlijocnmicdpaaMiC0
set_option linter.unusedVariables false
set_option linter.unusedSimpArgs false
set_option maxRecDepth 100000
namespace Go.Proofs.Ytjlijocnmicdpaa
open Go.RowKit

theorem rnd_20 (v m : Nat → BitVec 64) : Is (evCall EC 60 24 [.ptr 0 0, .agg (cB m), .int .i64 true 20] ⟨[.cells (cB v) 56], [], allW⟩ (updK 56 (.tuple []) (cB (roundB v m 0)))) := ev_eq [] ((.tuple [], [AIt.cells (cB (roundB v m 0)) 56]) : AV × Mem) (by kernel_rfl) trivial
theorem rrnd_20 (v m : Nat → BitVec 64) : Is (evCall EC 60 13 [.agg (cB v), .agg (cB m), .int .i64 true 20] ⟨[], [], allW⟩ (fun u _ => u = .agg (cB (roundB v m 0)))) := ev_eq [] (.agg (cB (roundB v m 0)) : AV) (by kernel_rfl) trivial
theorem rnd_21 (v m : Nat → BitVec 64) : Is (evCall EC 60 24 [.ptr 0 0, .agg (cB m), .int .i64 true 21] ⟨[.cells (cB v) 56], [], allW⟩ (updK 56 (.tuple []) (cB (roundB v m 1)))) := ev_eq [] ((.tuple [], [AIt.cells (cB (roundB v m 1)) 56]) : AV × Mem) (by kernel_rfl) trivial
theorem rrnd_21 (v m : Nat → BitVec 64) : Is (evCall EC 60 13 [.agg (cB v), .agg (cB m), .int .i64 true 21] ⟨[], [], allW⟩ (fun u _ => u = .agg (cB (roundB v m 1)))) := ev_eq [] (.agg (cB (roundB v m 1)) : AV) (by kernel_rfl) trivial
theorem rnd_22 (v m : Nat → BitVec 64) : Is (evCall EC 60 24 [.ptr 0 0, .agg (cB m), .int .i64 true 22] ⟨[.cells (cB v) 56], [], allW⟩ (updK 56 (.tuple []) (cB (roundB v m 2)))) := ev_eq [] ((.tuple [], [AIt.cells (cB (roundB v m 2)) 56]) : AV × Mem) (by kernel_rfl) trivial
theorem rrnd_22 (v m : Nat → BitVec 64) : Is (evCall EC 60 13 [.agg (cB v), .agg (cB m), .int .i64 true 22] ⟨[], [], allW⟩ (fun u _ => u = .agg (cB (roundB v m 2)))) := ev_eq [] (.agg (cB (roundB v m 2)) : AV) (by kernel_rfl) trivial
theorem rnd_23 (v m : Nat → BitVec 64) : Is (evCall EC 60 24 [.ptr 0 0, .agg (cB m), .int .i64 true 23] ⟨[.cells (cB v) 56], [], allW⟩ (updK 56 (.tuple []) (cB (roundB v m 3)))) := ev_eq [] ((.tuple [], [AIt.cells (cB (roundB v m 3)) 56]) : AV × Mem) (by kernel_rfl) trivial
theorem rrnd_23 (v m : Nat → BitVec 64) : Is (evCall EC 60 13 [.agg (cB v), .agg (cB m), .int .i64 true 23] ⟨[], [], allW⟩ (fun u _ => u = .agg (cB (roundB v m 3)))) := ev_eq [] (.agg (cB (roundB v m 3)) : AV) (by kernel_rfl) trivial
theorem rnd_24 (v m : Nat → BitVec 64) : Is (evCall EC 60 24 [.ptr 0 0, .agg (cB m), .int .i64 true 24] ⟨[.cells (cB v) 56], [], allW⟩ (updK 56 (.tuple []) (cB (roundB v m 4)))) := ev_eq [] ((.tuple [], [AIt.cells (cB (roundB v m 4)) 56]) : AV × Mem) (by kernel_rfl) trivial
theorem rrnd_24 (v m : Nat → BitVec 64) : Is (evCall EC 60 13 [.agg (cB v), .agg (cB m), .int .i64 true 24] ⟨[], [], allW⟩ (fun u _ => u = .agg (cB (roundB v m 4)))) := ev_eq [] (.agg (cB (roundB v m 4)) : AV) (by kernel_rfl) trivial
theorem rnd_25 (v m : Nat → BitVec 64) : Is (evCall EC 60 24 [.ptr 0 0, .agg (cB m), .int .i64 true 25] ⟨[.cells (cB v) 56], [], allW⟩ (updK 56 (.tuple []) (cB (roundB v m 5)))) := ev_eq [] ((.tuple [], [AIt.cells (cB (roundB v m 5)) 56]) : AV × Mem) (by kernel_rfl) trivial
theorem rrnd_25 (v m : Nat → BitVec 64) : Is (evCall EC 60 13 [.agg (cB v), .agg (cB m), .int .i64 true 25] ⟨[], [], allW⟩ (fun u _ => u = .agg (cB (roundB v m 5)))) := ev_eq [] (.agg (cB (roundB v m 5)) : AV) (by kernel_rfl) trivial
theorem rnd_26 (v m : Nat → BitVec 64) : Is (evCall EC 60 24 [.ptr 0 0, .agg (cB m), .int .i64 true 26] ⟨[.cells (cB v) 56], [], allW⟩ (updK 56 (.tuple []) (cB (roundB v m 6)))) := ev_eq [] ((.tuple [], [AIt.cells (cB (roundB v m 6)) 56]) : AV × Mem) (by kernel_rfl) trivial
theorem rrnd_26 (v m : Nat → BitVec 64) : Is (evCall EC 60 13 [.agg (cB v), .agg (cB m), .int .i64 true 26] ⟨[], [], allW⟩ (fun u _ => u = .agg (cB (roundB v m 6)))) := ev_eq [] (.agg (cB (roundB v m 6)) : AV) (by kernel_rfl) trivial
theorem rnd_27 (v m : Nat → BitVec 64) : Is (evCall EC 60 24 [.ptr 0 0, .agg (cB m), .int .i64 true 27] ⟨[.cells (cB v) 56], [], allW⟩ (updK 56 (.tuple []) (cB (roundB v m 7)))) := ev_eq [] ((.tuple [], [AIt.cells (cB (roundB v m 7)) 56]) : AV × Mem) (by kernel_rfl) trivial
theorem rrnd_27 (v m : Nat → BitVec 64) : Is (evCall EC 60 13 [.agg (cB v), .agg (cB m), .int .i64 true 27] ⟨[], [], allW⟩ (fun u _ => u = .agg (cB (roundB v m 7)))) := ev_eq [] (.agg (cB (roundB v m 7)) : AV) (by kernel_rfl) trivial
theorem rnd_28 (v m : Nat → BitVec 64) : Is (evCall EC 60 24 [.ptr 0 0, .agg (cB m), .int .i64 true 28] ⟨[.cells (cB v) 56], [], allW⟩ (updK 56 (.tuple []) (cB (roundB v m 8)))) := ev_eq [] ((.tuple [], [AIt.cells (cB (roundB v m 8)) 56]) : AV × Mem) (by kernel_rfl) trivial
theorem rrnd_28 (v m : Nat → BitVec 64) : Is (evCall EC 60 13 [.agg (cB v), .agg (cB m), .int .i64 true 28] ⟨[], [], allW⟩ (fun u _ => u = .agg (cB (roundB v m 8)))) := ev_eq [] (.agg (cB (roundB v m 8)) : AV) (by kernel_rfl) trivial
theorem rnd_29 (v m : Nat → BitVec 64) : Is (evCall EC 60 24 [.ptr 0 0, .agg (cB m), .int .i64 true 29] ⟨[.cells (cB v) 56], [], allW⟩ (updK 56 (.tuple []) (cB (roundB v m 9)))) := ev_eq [] ((.tuple [], [AIt.cells (cB (roundB v m 9)) 56]) : AV × Mem) (by kernel_rfl) trivial
theorem rrnd_29 (v m : Nat → BitVec 64) : Is (evCall EC 60 13 [.agg (cB v), .agg (cB m), .int .i64 true 29] ⟨[], [], allW⟩ (fun u _ => u = .agg (cB (roundB v m 9)))) := ev_eq [] (.agg (cB (roundB v m 9)) : AV) (by kernel_rfl) trivial
end Go.Proofs.Ytjlijocnmicdpaa
