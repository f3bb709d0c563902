/- Rounds, one by one. No condition. -/
import Derived.Test.YtjlijocnmicdpaaMiC0
set_option linter.unusedVariables false
set_option linter.unusedSimpArgs false
set_option maxRecDepth 100000
namespace Go.Proofs.Ytjlijocnmicdpaa
open Go.RowKit

theorem rnd_0 (v m : Nat → BitVec 64) : Is (evCall EC 60 24 [.ptr 0 0, .agg (cB m), .int .i64 true 0] ⟨[.cells (cB v) 56], [], allW⟩ (updK 56 (.tuple []) (cB (roundB v m 0)))) := ev_eq [] ((.tuple [], [AIt.cells (cB (roundB v m 0)) 56]) : AV × Mem) (by kernel_rfl) trivial
theorem rrnd_0 (v m : Nat → BitVec 64) : Is (evCall EC 60 13 [.agg (cB v), .agg (cB m), .int .i64 true 0] ⟨[], [], allW⟩ (fun u _ => u = .agg (cB (roundB v m 0)))) := ev_eq [] (.agg (cB (roundB v m 0)) : AV) (by kernel_rfl) trivial
theorem rnd_1 (v m : Nat → BitVec 64) : Is (evCall EC 60 24 [.ptr 0 0, .agg (cB m), .int .i64 true 1] ⟨[.cells (cB v) 56], [], allW⟩ (updK 56 (.tuple []) (cB (roundB v m 1)))) := ev_eq [] ((.tuple [], [AIt.cells (cB (roundB v m 1)) 56]) : AV × Mem) (by kernel_rfl) trivial
theorem rrnd_1 (v m : Nat → BitVec 64) : Is (evCall EC 60 13 [.agg (cB v), .agg (cB m), .int .i64 true 1] ⟨[], [], allW⟩ (fun u _ => u = .agg (cB (roundB v m 1)))) := ev_eq [] (.agg (cB (roundB v m 1)) : AV) (by kernel_rfl) trivial
theorem rnd_2 (v m : Nat → BitVec 64) : Is (evCall EC 60 24 [.ptr 0 0, .agg (cB m), .int .i64 true 2] ⟨[.cells (cB v) 56], [], allW⟩ (updK 56 (.tuple []) (cB (roundB v m 2)))) := ev_eq [] ((.tuple [], [AIt.cells (cB (roundB v m 2)) 56]) : AV × Mem) (by kernel_rfl) trivial
theorem rrnd_2 (v m : Nat → BitVec 64) : Is (evCall EC 60 13 [.agg (cB v), .agg (cB m), .int .i64 true 2] ⟨[], [], allW⟩ (fun u _ => u = .agg (cB (roundB v m 2)))) := ev_eq [] (.agg (cB (roundB v m 2)) : AV) (by kernel_rfl) trivial
theorem rnd_3 (v m : Nat → BitVec 64) : Is (evCall EC 60 24 [.ptr 0 0, .agg (cB m), .int .i64 true 3] ⟨[.cells (cB v) 56], [], allW⟩ (updK 56 (.tuple []) (cB (roundB v m 3)))) := ev_eq [] ((.tuple [], [AIt.cells (cB (roundB v m 3)) 56]) : AV × Mem) (by kernel_rfl) trivial
theorem rrnd_3 (v m : Nat → BitVec 64) : Is (evCall EC 60 13 [.agg (cB v), .agg (cB m), .int .i64 true 3] ⟨[], [], allW⟩ (fun u _ => u = .agg (cB (roundB v m 3)))) := ev_eq [] (.agg (cB (roundB v m 3)) : AV) (by kernel_rfl) trivial
theorem rnd_4 (v m : Nat → BitVec 64) : Is (evCall EC 60 24 [.ptr 0 0, .agg (cB m), .int .i64 true 4] ⟨[.cells (cB v) 56], [], allW⟩ (updK 56 (.tuple []) (cB (roundB v m 4)))) := ev_eq [] ((.tuple [], [AIt.cells (cB (roundB v m 4)) 56]) : AV × Mem) (by kernel_rfl) trivial
theorem rrnd_4 (v m : Nat → BitVec 64) : Is (evCall EC 60 13 [.agg (cB v), .agg (cB m), .int .i64 true 4] ⟨[], [], allW⟩ (fun u _ => u = .agg (cB (roundB v m 4)))) := ev_eq [] (.agg (cB (roundB v m 4)) : AV) (by kernel_rfl) trivial
theorem rnd_5 (v m : Nat → BitVec 64) : Is (evCall EC 60 24 [.ptr 0 0, .agg (cB m), .int .i64 true 5] ⟨[.cells (cB v) 56], [], allW⟩ (updK 56 (.tuple []) (cB (roundB v m 5)))) := ev_eq [] ((.tuple [], [AIt.cells (cB (roundB v m 5)) 56]) : AV × Mem) (by kernel_rfl) trivial
theorem rrnd_5 (v m : Nat → BitVec 64) : Is (evCall EC 60 13 [.agg (cB v), .agg (cB m), .int .i64 true 5] ⟨[], [], allW⟩ (fun u _ => u = .agg (cB (roundB v m 5)))) := ev_eq [] (.agg (cB (roundB v m 5)) : AV) (by kernel_rfl) trivial
theorem rnd_6 (v m : Nat → BitVec 64) : Is (evCall EC 60 24 [.ptr 0 0, .agg (cB m), .int .i64 true 6] ⟨[.cells (cB v) 56], [], allW⟩ (updK 56 (.tuple []) (cB (roundB v m 6)))) := ev_eq [] ((.tuple [], [AIt.cells (cB (roundB v m 6)) 56]) : AV × Mem) (by kernel_rfl) trivial
theorem rrnd_6 (v m : Nat → BitVec 64) : Is (evCall EC 60 13 [.agg (cB v), .agg (cB m), .int .i64 true 6] ⟨[], [], allW⟩ (fun u _ => u = .agg (cB (roundB v m 6)))) := ev_eq [] (.agg (cB (roundB v m 6)) : AV) (by kernel_rfl) trivial
theorem rnd_7 (v m : Nat → BitVec 64) : Is (evCall EC 60 24 [.ptr 0 0, .agg (cB m), .int .i64 true 7] ⟨[.cells (cB v) 56], [], allW⟩ (updK 56 (.tuple []) (cB (roundB v m 7)))) := ev_eq [] ((.tuple [], [AIt.cells (cB (roundB v m 7)) 56]) : AV × Mem) (by kernel_rfl) trivial
theorem rrnd_7 (v m : Nat → BitVec 64) : Is (evCall EC 60 13 [.agg (cB v), .agg (cB m), .int .i64 true 7] ⟨[], [], allW⟩ (fun u _ => u = .agg (cB (roundB v m 7)))) := ev_eq [] (.agg (cB (roundB v m 7)) : AV) (by kernel_rfl) trivial
theorem rnd_8 (v m : Nat → BitVec 64) : Is (evCall EC 60 24 [.ptr 0 0, .agg (cB m), .int .i64 true 8] ⟨[.cells (cB v) 56], [], allW⟩ (updK 56 (.tuple []) (cB (roundB v m 8)))) := ev_eq [] ((.tuple [], [AIt.cells (cB (roundB v m 8)) 56]) : AV × Mem) (by kernel_rfl) trivial
theorem rrnd_8 (v m : Nat → BitVec 64) : Is (evCall EC 60 13 [.agg (cB v), .agg (cB m), .int .i64 true 8] ⟨[], [], allW⟩ (fun u _ => u = .agg (cB (roundB v m 8)))) := ev_eq [] (.agg (cB (roundB v m 8)) : AV) (by kernel_rfl) trivial
theorem rnd_9 (v m : Nat → BitVec 64) : Is (evCall EC 60 24 [.ptr 0 0, .agg (cB m), .int .i64 true 9] ⟨[.cells (cB v) 56], [], allW⟩ (updK 56 (.tuple []) (cB (roundB v m 9)))) := ev_eq [] ((.tuple [], [AIt.cells (cB (roundB v m 9)) 56]) : AV × Mem) (by kernel_rfl) trivial
theorem rrnd_9 (v m : Nat → BitVec 64) : Is (evCall EC 60 13 [.agg (cB v), .agg (cB m), .int .i64 true 9] ⟨[], [], allW⟩ (fun u _ => u = .agg (cB (roundB v m 9)))) := ev_eq [] (.agg (cB (roundB v m 9)) : AV) (by kernel_rfl) trivial
end Go.Proofs.Ytjlijocnmicdpaa
