/- Both beginnings. No condition. -/
import Derived.Test.YtjlijocnmicdpaaMiO
import Derived.Test.YtjlijocnmicdpaaMiP
import Derived.Test.YtjlijocnmicdpaaMiD
set_option linter.unusedVariables false
set_option linter.unusedSimpArgs false
set_option maxRecDepth 100000
namespace Go.Proofs.Ytjlijocnmicdpaa
open Go.RowKit

def ctrRefRoot : CtrF
  | [x, .int .i64 true n, .int .i64 true m], _ => match asB64 x with
    | some x => bif decide (n = 2 ∧ m = 64) then some (.bv .u64 (rfN (tpN x 128) 69).1, []) else none
    | none => none
  | _, _ => none
theorem ctrRefRoot_ok {R : Rws} : Good Try.prog R 27 ctrRefRoot := by
  refine ⟨enters_of Try.func27 (by kernel_rfl) rfl, fun args H v cs hv hcs => ?_⟩
  unfold ctrRefRoot at hv
  split at hv
  · rename_i H' x n m
    split at hv
    · rename_i y hy
      cases hd : decide (n = 2 ∧ m = 64) <;> simp only [hd, cond_true, cond_false] at hv
      · cases hv
      · cases hv
        obtain ⟨rfl, rfl⟩ := of_decide_eq_true hd
        refine ⟨_, rfl, fun Hr Args ha _ _ w _ => ?_⟩
        cases ha with | cons a1 ha => cases ha with | cons a2 ha => cases ha with | cons a3 ha =>
        cases ha
        rw [asBv_sound hy a1 rfl]
        cases a2
        cases a3
        exact refRoot_any y w
    · cases hv
  · cases hv
noncomputable def tabQ (R : Rws) : List (Nat × CtrF) := [(27, ctrRefRoot),
  (26, ctrT asN (fun (x : BitVec 64) => .bv .u64 (limb (rtN x 68) 0)))]
theorem tabQ_ok {R : Rws} (hR : RwOK R) : ∀ p ∈ tabQ R, Good Try.prog R p.1 p.2 := by
  have h0 : Good Try.prog R 27 ( ctrRefRoot) := ctrRefRoot_ok
  have h1 : Good Try.prog R 26 ( ctrT asN (fun (x : BitVec 64) => .bv .u64 (limb (rtN x 68) 0))) := ctrT_ok (enc := (fun x : BitVec 64 => Value.int .u64 (x.toNat : Int))) (V := fun (x : BitVec 64) => .int .u64 ((limb (rtN x 68) 0).toNat : Int)) (fun h => asN_rel h) (enters_of Try.func26 (by kernel_rfl) rfl) (fun _ => rfl) (fun x w => root_any x w)
  exact good_cons (p := (_, _)) h0 (good_cons (p := (_, _)) h1 (good_nil))
noncomputable def EQ : Env := mkEnvM noRows (tabQ noRows) []
theorem EQ_ok : EnvOK EQ := mkEnvM_ok rwOK_no (tabQ_ok rwOK_no) goodM_nil
def begL : List (BitVec 64) := [7640891576956012808#64, 13503953896175478587#64, 4354685564936845355#64, 11912009170470909681#64, 5840696475078001361#64, 11170449401992604703#64, 2270897969802886507#64, 6620516959819538809#64]
def begA : List AV := begL.map fun b => .bv .u64 b
theorem beg_ev : Is (evCall EQ 60 10 [] ⟨[], [], allW⟩ (fun v _ => v = .agg [.bv .u64 (limb (rtN 2#64 68) 0), .bv .u64 (limb (rtN 3#64 68) 0), .bv .u64 (limb (rtN 5#64 68) 0), .bv .u64 (limb (rtN 7#64 68) 0), .bv .u64 (limb (rtN 11#64 68) 0), .bv .u64 (limb (rtN 13#64 68) 0), .bv .u64 (limb (rtN 17#64 68) 0), .bv .u64 (limb (rtN 19#64 68) 0)])) := ev_eq [] (.agg [.bv .u64 (limb (rtN 2#64 68) 0), .bv .u64 (limb (rtN 3#64 68) 0), .bv .u64 (limb (rtN 5#64 68) 0), .bv .u64 (limb (rtN 7#64 68) 0), .bv .u64 (limb (rtN 11#64 68) 0), .bv .u64 (limb (rtN 13#64 68) 0), .bv .u64 (limb (rtN 17#64 68) 0), .bv .u64 (limb (rtN 19#64 68) 0)] : AV) (by kernel_rfl) trivial
theorem rbeg_ev : Is (evCall EQ 60 11 [] ⟨[], [], allW⟩ (fun v _ => v = .agg [.bv .u64 (rfN (tpN 2#64 128) 69).1, .bv .u64 (rfN (tpN 3#64 128) 69).1, .bv .u64 (rfN (tpN 5#64 128) 69).1, .bv .u64 (rfN (tpN 7#64 128) 69).1, .bv .u64 (rfN (tpN 11#64 128) 69).1, .bv .u64 (rfN (tpN 13#64 128) 69).1, .bv .u64 (rfN (tpN 17#64 128) 69).1, .bv .u64 (rfN (tpN 19#64 128) 69).1])) := ev_eq [] (.agg [.bv .u64 (rfN (tpN 2#64 128) 69).1, .bv .u64 (rfN (tpN 3#64 128) 69).1, .bv .u64 (rfN (tpN 5#64 128) 69).1, .bv .u64 (rfN (tpN 7#64 128) 69).1, .bv .u64 (rfN (tpN 11#64 128) 69).1, .bv .u64 (rfN (tpN 13#64 128) 69).1, .bv .u64 (rfN (tpN 17#64 128) 69).1, .bv .u64 (rfN (tpN 19#64 128) 69).1] : AV) (by kernel_rfl) trivial
theorem beg_0 : limb (rtN 2#64 68) 0 = 7640891576956012808#64 := by decide +kernel
theorem rbeg_0 : (rfN (tpN 2#64 128) 69).1 = 7640891576956012808#64 := by decide +kernel
theorem beg_1 : limb (rtN 3#64 68) 0 = 13503953896175478587#64 := by decide +kernel
theorem rbeg_1 : (rfN (tpN 3#64 128) 69).1 = 13503953896175478587#64 := by decide +kernel
theorem beg_2 : limb (rtN 5#64 68) 0 = 4354685564936845355#64 := by decide +kernel
theorem rbeg_2 : (rfN (tpN 5#64 128) 69).1 = 4354685564936845355#64 := by decide +kernel
theorem beg_3 : limb (rtN 7#64 68) 0 = 11912009170470909681#64 := by decide +kernel
theorem rbeg_3 : (rfN (tpN 7#64 128) 69).1 = 11912009170470909681#64 := by decide +kernel
theorem beg_4 : limb (rtN 11#64 68) 0 = 5840696475078001361#64 := by decide +kernel
theorem rbeg_4 : (rfN (tpN 11#64 128) 69).1 = 5840696475078001361#64 := by decide +kernel
theorem beg_5 : limb (rtN 13#64 68) 0 = 11170449401992604703#64 := by decide +kernel
theorem rbeg_5 : (rfN (tpN 13#64 128) 69).1 = 11170449401992604703#64 := by decide +kernel
theorem beg_6 : limb (rtN 17#64 68) 0 = 2270897969802886507#64 := by decide +kernel
theorem rbeg_6 : (rfN (tpN 17#64 128) 69).1 = 2270897969802886507#64 := by decide +kernel
theorem beg_7 : limb (rtN 19#64 68) 0 = 6620516959819538809#64 := by decide +kernel
theorem rbeg_7 : (rfN (tpN 19#64 128) 69).1 = 6620516959819538809#64 := by decide +kernel
theorem beg_any (w : World) : Calls Try.prog 10 #[] w fun e w' => e = .returned (.agg #[.int .u64 ((7640891576956012808#64 : BitVec 64).toNat : Int), .int .u64 ((13503953896175478587#64 : BitVec 64).toNat : Int), .int .u64 ((4354685564936845355#64 : BitVec 64).toNat : Int), .int .u64 ((11912009170470909681#64 : BitVec 64).toNat : Int), .int .u64 ((5840696475078001361#64 : BitVec 64).toNat : Int), .int .u64 ((11170449401992604703#64 : BitVec 64).toNat : Int), .int .u64 ((2270897969802886507#64 : BitVec 64).toNat : Int), .int .u64 ((6620516959819538809#64 : BitVec 64).toNat : Int)]) ∧ Below w.heap.size w w' := by
  have h := beg_ev
  rw [beg_0, beg_1, beg_2, beg_3, beg_4, beg_5, beg_6, beg_7] at h
  exact ev_callsI EQ_ok 60 h rfl .nil rfl w
theorem rbeg_any (w : World) : Calls Try.prog 11 #[] w fun e w' => e = .returned (.agg #[.int .u64 ((7640891576956012808#64 : BitVec 64).toNat : Int), .int .u64 ((13503953896175478587#64 : BitVec 64).toNat : Int), .int .u64 ((4354685564936845355#64 : BitVec 64).toNat : Int), .int .u64 ((11912009170470909681#64 : BitVec 64).toNat : Int), .int .u64 ((5840696475078001361#64 : BitVec 64).toNat : Int), .int .u64 ((11170449401992604703#64 : BitVec 64).toNat : Int), .int .u64 ((2270897969802886507#64 : BitVec 64).toNat : Int), .int .u64 ((6620516959819538809#64 : BitVec 64).toNat : Int)]) ∧ Below w.heap.size w w' := by
  have h := rbeg_ev
  rw [rbeg_0, rbeg_1, rbeg_2, rbeg_3, rbeg_4, rbeg_5, rbeg_6, rbeg_7] at h
  exact ev_callsI EQ_ok 60 h rfl .nil rfl w
noncomputable def tabG (R : Rws) : List (Nat × CtrF) := [(10, ctr0 (.agg begA)),
  (11, ctr0 (.agg begA))]
theorem tabG_ok {R : Rws} (hR : RwOK R) : ∀ p ∈ tabG R, Good Try.prog R p.1 p.2 := by
  have h0 : Good Try.prog R 10 ( ctr0 (.agg begA)) := ctr0_ok (enters_of Try.func10 (by kernel_rfl) rfl) rfl (fun w => beg_any w)
  have h1 : Good Try.prog R 11 ( ctr0 (.agg begA)) := ctr0_ok (enters_of Try.func11 (by kernel_rfl) rfl) rfl (fun w => rbeg_any w)
  exact good_cons (p := (_, _)) h0 (good_cons (p := (_, _)) h1 (good_nil))
end Go.Proofs.Ytjlijocnmicdpaa
