/- What is known of the functions of layer 25. No condition. -/
import Derived.Test.YtjlijocnmicdpaaMiQ
set_option linter.unusedVariables false
set_option linter.unusedSimpArgs false
set_option maxRecDepth 100000
namespace Go.Proofs.Ytjlijocnmicdpaa
open Go.RowKit

noncomputable def tabS (R : Rws) : List (Nat × CtrF) := (13, ctrRound) :: tabG R
theorem tabS_ok {R : Rws} (hR : RwOK R) : ∀ p ∈ tabS R, Good Try.prog R p.1 p.2 := good_cons (p := (_, _)) ctrRound_ok (tabG_ok hR)
noncomputable def ES : Env := ⟨Try.prog, eqsK Try.prog, noRows, lookF (tabS noRows), lookCm [(24, roundF)], fun _ => false, fun _ => false, effM⟩
theorem ES_ok : EnvOK ES := ⟨eqsK_ok, rwOK_no, fun f F h => lookF_ok (tabS_ok rwOK_no) f F h, fun f F h => lookCm_ok (goodM_cons (q := (_, _)) roundF_ok goodM_nil) f F h, rfl⟩
/-- What is milled. -/
structure XM where
  n : Nat
  h : Nat → BitVec 64
  m : Nat → BitVec 64
  o0 : BitVec 64
  o1 : BitVec 64
  last : Bool
def xA (x : XM) : List AV := [.int .u32 false (x.n : Int), .bv .u64 (x.h 0), .bv .u64 (x.h 1), .bv .u64 (x.h 2), .bv .u64 (x.h 3), .bv .u64 (x.h 4), .bv .u64 (x.h 5), .bv .u64 (x.h 6), .bv .u64 (x.h 7), .bv .u64 (x.m 0), .bv .u64 (x.m 1), .bv .u64 (x.m 2), .bv .u64 (x.m 3), .bv .u64 (x.m 4), .bv .u64 (x.m 5), .bv .u64 (x.m 6), .bv .u64 (x.m 7), .bv .u64 (x.m 8), .bv .u64 (x.m 9), .bv .u64 (x.m 10), .bv .u64 (x.m 11), .bv .u64 (x.m 12), .bv .u64 (x.m 13), .bv .u64 (x.m 14), .bv .u64 (x.m 15), .bv .u64 x.o0, .bv .u64 x.o1, .bool false x.last]
def xV (x : XM) : List Value := [.int .u32 (x.n : Int), .int .u64 ((x.h 0).toNat : Int), .int .u64 ((x.h 1).toNat : Int), .int .u64 ((x.h 2).toNat : Int), .int .u64 ((x.h 3).toNat : Int), .int .u64 ((x.h 4).toNat : Int), .int .u64 ((x.h 5).toNat : Int), .int .u64 ((x.h 6).toNat : Int), .int .u64 ((x.h 7).toNat : Int), .int .u64 ((x.m 0).toNat : Int), .int .u64 ((x.m 1).toNat : Int), .int .u64 ((x.m 2).toNat : Int), .int .u64 ((x.m 3).toNat : Int), .int .u64 ((x.m 4).toNat : Int), .int .u64 ((x.m 5).toNat : Int), .int .u64 ((x.m 6).toNat : Int), .int .u64 ((x.m 7).toNat : Int), .int .u64 ((x.m 8).toNat : Int), .int .u64 ((x.m 9).toNat : Int), .int .u64 ((x.m 10).toNat : Int), .int .u64 ((x.m 11).toNat : Int), .int .u64 ((x.m 12).toNat : Int), .int .u64 ((x.m 13).toNat : Int), .int .u64 ((x.m 14).toNat : Int), .int .u64 ((x.m 15).toNat : Int), .int .u64 (x.o0.toNat : Int), .int .u64 (x.o1.toNat : Int), .bool x.last]
theorem rel_xA {R : Rws} {ρ : Nums} (x : XM) : Rel R ρ (.agg (xA x)) (.agg (xV x).toArray) := .agg (RelL.of_vals rfl)
/-- The sixteen numbers ahead of all rounds. -/
def madeV (x : XM) (b : Bool) : Nat → BitVec 64 := fun i => ([x.h 0, x.h 1, x.h 2, x.h 3, x.h 4, x.h 5, x.h 6, x.h 7, 7640891576956012808#64, 13503953896175478587#64, 4354685564936845355#64, 11912009170470909681#64, 5840696475078001361#64 ^^^ x.o0, 11170449401992604703#64 ^^^ x.o1, bif b then ~~~ 2270897969802886507#64 else 2270897969802886507#64, 6620516959819538809#64] : List (BitVec 64)).getD i 0#64
/-- Behind k rounds. -/
def vR (x : XM) (b : Bool) : Nat → Nat → BitVec 64
  | 0 => madeV x b
  | k + 1 => roundB (reV (vR x b k)) (reV x.m) (k % 10)
def fA (x : XM) (b : Bool) : List AV := [.bv .u64 (x.h 0 ^^^ vR x b x.n 0 ^^^ vR x b x.n 8), .bv .u64 (x.h 1 ^^^ vR x b x.n 1 ^^^ vR x b x.n 9), .bv .u64 (x.h 2 ^^^ vR x b x.n 2 ^^^ vR x b x.n 10), .bv .u64 (x.h 3 ^^^ vR x b x.n 3 ^^^ vR x b x.n 11), .bv .u64 (x.h 4 ^^^ vR x b x.n 4 ^^^ vR x b x.n 12), .bv .u64 (x.h 5 ^^^ vR x b x.n 5 ^^^ vR x b x.n 13), .bv .u64 (x.h 6 ^^^ vR x b x.n 6 ^^^ vR x b x.n 14), .bv .u64 (x.h 7 ^^^ vR x b x.n 7 ^^^ vR x b x.n 15)]
def fV (x : XM) (b : Bool) : List Value := [.int .u64 ((x.h 0 ^^^ vR x b x.n 0 ^^^ vR x b x.n 8).toNat : Int), .int .u64 ((x.h 1 ^^^ vR x b x.n 1 ^^^ vR x b x.n 9).toNat : Int), .int .u64 ((x.h 2 ^^^ vR x b x.n 2 ^^^ vR x b x.n 10).toNat : Int), .int .u64 ((x.h 3 ^^^ vR x b x.n 3 ^^^ vR x b x.n 11).toNat : Int), .int .u64 ((x.h 4 ^^^ vR x b x.n 4 ^^^ vR x b x.n 12).toNat : Int), .int .u64 ((x.h 5 ^^^ vR x b x.n 5 ^^^ vR x b x.n 13).toNat : Int), .int .u64 ((x.h 6 ^^^ vR x b x.n 6 ^^^ vR x b x.n 14).toNat : Int), .int .u64 ((x.h 7 ^^^ vR x b x.n 7 ^^^ vR x b x.n 15).toNat : Int)]
theorem told_fA (x : XM) (b : Bool) : (AV.agg (fA x b)).told? = some (.agg (fV x b).toArray) := rfl
theorem wrap_n {n : Nat} (h : n ≤ 100000) : IntKind.wrap IntKind.i64 (n : Int) = (n : Int) := by rw [IntKind.wrap_i64]; omega
end Go.Proofs.Ytjlijocnmicdpaa
