/- The law StackHolds: what it reads. No condition. -/
import Derived.Test.YtcfomhnfhalmaaaStackH
import Derived.Test.YtcfomhnfhalmaaaStackL
set_option linter.unusedVariables false
set_option linter.unusedSimpArgs false
set_option maxRecDepth 100000
namespace Go.Proofs.Ytcfomhnfhalmaaa
open Go.RowKit

structure V4 where
  a : BitVec 64
  b : BitVec 64
  c : BitVec 64
  d : BitVec 64
def F4 (L : List V4) (i : Nat) : List AV := let x := L.getD i ⟨0, 0, 0, 0⟩; [.bv .u64 x.a, .bv .u64 x.b, .bv .u64 x.c, .bv .u64 x.d]
structure A7 where
  w : Int
  n : Int
  v : V5
def zA : A7 := ⟨0, 0, z5⟩
def F7 (L : List A7) (i : Nat) : List AV := let x := L.getD i zA; [.int .i64 false x.w, .int .i64 false x.n, .bv .u64 x.v.a, .bv .u64 x.v.b, .bv .u64 x.v.c, .bv .u64 x.v.d, .bv .u64 x.v.l]
def RH (A0 A1 A2 : Option Addr) (X : List V5) (O : List V4) (Y : List A7) : Rws := rws [mkRow A0 X.length 5 (F5 X), mkRow A1 O.length 4 (F4 O), mkRow A2 Y.length 7 (F7 Y)]
noncomputable def mAct (A B : List V5) : CtmF := fun args H wr => match args with
  | .ptr 0 0 :: _ => frF (actS A) args H wr
  | .ptr 2 0 :: _ => frF (actS B) args H wr
  | _ => none
noncomputable def mQ (A D : List V5) : List (Nat × CtmF) := [(62, frR (eqS A D))]
noncomputable def mH (A B A' B' : List V5) : List (Nat × CtmF) := [(25, mAct A B), (62, frR (eqS A' B'))]
end Go.Proofs.Ytcfomhnfhalmaaa
