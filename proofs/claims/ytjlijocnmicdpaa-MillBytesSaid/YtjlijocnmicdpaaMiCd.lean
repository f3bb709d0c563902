/- Rounds, one by one. No condition. -/
import Derived.Test.YtjlijocnmicdpaaMiC0
set_option linter.unusedVariables false
set_option linter.unusedSimpArgs false
set_option maxRecDepth 100000
namespace Go.Proofs.Ytjlijocnmicdpaa
open Go.RowKit

theorem rnd_30 (v m : Nat → BitVec 64) : Is (evCall EC 60 24 [.ptr 0 0, .agg (cB m), .int .i64 true 30] ⟨[.cells (cB v) 56], [], allW⟩ (updK 56 (.tuple []) (cB (roundB v m 0)))) := ev_eq [] ((.tuple [], [AIt.cells (cB (roundB v m 0)) 56]) : AV × Mem) (by kernel_rfl) trivial
theorem rrnd_30 (v m : Nat → BitVec 64) : Is (evCall EC 60 13 [.agg (cB v), .agg (cB m), .int .i64 true 30] ⟨[], [], allW⟩ (fun u _ => u = .agg (cB (roundB v m 0)))) := ev_eq [] (.agg (cB (roundB v m 0)) : AV) (by kernel_rfl) trivial
theorem rnd_31 (v m : Nat → BitVec 64) : Is (evCall EC 60 24 [.ptr 0 0, .agg (cB m), .int .i64 true 31] ⟨[.cells (cB v) 56], [], allW⟩ (updK 56 (.tuple []) (cB (roundB v m 1)))) := ev_eq [] ((.tuple [], [AIt.cells (cB (roundB v m 1)) 56]) : AV × Mem) (by kernel_rfl) trivial
theorem rrnd_31 (v m : Nat → BitVec 64) : Is (evCall EC 60 13 [.agg (cB v), .agg (cB m), .int .i64 true 31] ⟨[], [], allW⟩ (fun u _ => u = .agg (cB (roundB v m 1)))) := ev_eq [] (.agg (cB (roundB v m 1)) : AV) (by kernel_rfl) trivial
theorem rnd_32 (v m : Nat → BitVec 64) : Is (evCall EC 60 24 [.ptr 0 0, .agg (cB m), .int .i64 true 32] ⟨[.cells (cB v) 56], [], allW⟩ (updK 56 (.tuple []) (cB (roundB v m 2)))) := ev_eq [] ((.tuple [], [AIt.cells (cB (roundB v m 2)) 56]) : AV × Mem) (by kernel_rfl) trivial
theorem rrnd_32 (v m : Nat → BitVec 64) : Is (evCall EC 60 13 [.agg (cB v), .agg (cB m), .int .i64 true 32] ⟨[], [], allW⟩ (fun u _ => u = .agg (cB (roundB v m 2)))) := ev_eq [] (.agg (cB (roundB v m 2)) : AV) (by kernel_rfl) trivial
theorem rnd_33 (v m : Nat → BitVec 64) : Is (evCall EC 60 24 [.ptr 0 0, .agg (cB m), .int .i64 true 33] ⟨[.cells (cB v) 56], [], allW⟩ (updK 56 (.tuple []) (cB (roundB v m 3)))) := ev_eq [] ((.tuple [], [AIt.cells (cB (roundB v m 3)) 56]) : AV × Mem) (by kernel_rfl) trivial
theorem rrnd_33 (v m : Nat → BitVec 64) : Is (evCall EC 60 13 [.agg (cB v), .agg (cB m), .int .i64 true 33] ⟨[], [], allW⟩ (fun u _ => u = .agg (cB (roundB v m 3)))) := ev_eq [] (.agg (cB (roundB v m 3)) : AV) (by kernel_rfl) trivial
theorem rnd_34 (v m : Nat → BitVec 64) : Is (evCall EC 60 24 [.ptr 0 0, .agg (cB m), .int .i64 true 34] ⟨[.cells (cB v) 56], [], allW⟩ (updK 56 (.tuple []) (cB (roundB v m 4)))) := ev_eq [] ((.tuple [], [AIt.cells (cB (roundB v m 4)) 56]) : AV × Mem) (by kernel_rfl) trivial
theorem rrnd_34 (v m : Nat → BitVec 64) : Is (evCall EC 60 13 [.agg (cB v), .agg (cB m), .int .i64 true 34] ⟨[], [], allW⟩ (fun u _ => u = .agg (cB (roundB v m 4)))) := ev_eq [] (.agg (cB (roundB v m 4)) : AV) (by kernel_rfl) trivial
theorem rnd_35 (v m : Nat → BitVec 64) : Is (evCall EC 60 24 [.ptr 0 0, .agg (cB m), .int .i64 true 35] ⟨[.cells (cB v) 56], [], allW⟩ (updK 56 (.tuple []) (cB (roundB v m 5)))) := ev_eq [] ((.tuple [], [AIt.cells (cB (roundB v m 5)) 56]) : AV × Mem) (by kernel_rfl) trivial
theorem rrnd_35 (v m : Nat → BitVec 64) : Is (evCall EC 60 13 [.agg (cB v), .agg (cB m), .int .i64 true 35] ⟨[], [], allW⟩ (fun u _ => u = .agg (cB (roundB v m 5)))) := ev_eq [] (.agg (cB (roundB v m 5)) : AV) (by kernel_rfl) trivial
theorem rnd_36 (v m : Nat → BitVec 64) : Is (evCall EC 60 24 [.ptr 0 0, .agg (cB m), .int .i64 true 36] ⟨[.cells (cB v) 56], [], allW⟩ (updK 56 (.tuple []) (cB (roundB v m 6)))) := ev_eq [] ((.tuple [], [AIt.cells (cB (roundB v m 6)) 56]) : AV × Mem) (by kernel_rfl) trivial
theorem rrnd_36 (v m : Nat → BitVec 64) : Is (evCall EC 60 13 [.agg (cB v), .agg (cB m), .int .i64 true 36] ⟨[], [], allW⟩ (fun u _ => u = .agg (cB (roundB v m 6)))) := ev_eq [] (.agg (cB (roundB v m 6)) : AV) (by kernel_rfl) trivial
theorem rnd_37 (v m : Nat → BitVec 64) : Is (evCall EC 60 24 [.ptr 0 0, .agg (cB m), .int .i64 true 37] ⟨[.cells (cB v) 56], [], allW⟩ (updK 56 (.tuple []) (cB (roundB v m 7)))) := ev_eq [] ((.tuple [], [AIt.cells (cB (roundB v m 7)) 56]) : AV × Mem) (by kernel_rfl) trivial
theorem rrnd_37 (v m : Nat → BitVec 64) : Is (evCall EC 60 13 [.agg (cB v), .agg (cB m), .int .i64 true 37] ⟨[], [], allW⟩ (fun u _ => u = .agg (cB (roundB v m 7)))) := ev_eq [] (.agg (cB (roundB v m 7)) : AV) (by kernel_rfl) trivial
theorem rnd_38 (v m : Nat → BitVec 64) : Is (evCall EC 60 24 [.ptr 0 0, .agg (cB m), .int .i64 true 38] ⟨[.cells (cB v) 56], [], allW⟩ (updK 56 (.tuple []) (cB (roundB v m 8)))) := ev_eq [] ((.tuple [], [AIt.cells (cB (roundB v m 8)) 56]) : AV × Mem) (by kernel_rfl) trivial
theorem rrnd_38 (v m : Nat → BitVec 64) : Is (evCall EC 60 13 [.agg (cB v), .agg (cB m), .int .i64 true 38] ⟨[], [], allW⟩ (fun u _ => u = .agg (cB (roundB v m 8)))) := ev_eq [] (.agg (cB (roundB v m 8)) : AV) (by kernel_rfl) trivial
theorem rnd_39 (v m : Nat → BitVec 64) : Is (evCall EC 60 24 [.ptr 0 0, .agg (cB m), .int .i64 true 39] ⟨[.cells (cB v) 56], [], allW⟩ (updK 56 (.tuple []) (cB (roundB v m 9)))) := ev_eq [] ((.tuple [], [AIt.cells (cB (roundB v m 9)) 56]) : AV × Mem) (by kernel_rfl) trivial
theorem rrnd_39 (v m : Nat → BitVec 64) : Is (evCall EC 60 13 [.agg (cB v), .agg (cB m), .int .i64 true 39] ⟨[], [], allW⟩ (fun u _ => u = .agg (cB (roundB v m 9)))) := ev_eq [] (.agg (cB (roundB v m 9)) : AV) (by kernel_rfl) trivial
end Go.Proofs.Ytjlijocnmicdpaa
