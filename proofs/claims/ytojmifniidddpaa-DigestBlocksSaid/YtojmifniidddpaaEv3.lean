/- Operations on values whose shape is known. No program of its own. No condition. -/
import Derived.Test.YtojmifniidddpaaEv2
import Derived.Laws.StructEq
import Derived.Laws.Cover2
set_option linter.unusedVariables false
set_option linter.unusedSimpArgs false
namespace Go.Proofs.Ytojmifniidddpaa
open Go.RowKit

/-- What comes of an operation: a value, if so much is so; a new block and the pointer to it, or the slice of it; block l has other cells now. -/
inductive Res where
  | val (v : AV) (cs : List Bool)
  | new (cs : List AV) (t : TypeId)
  | newS (cs : List AV) (t : TypeId) (n c : Nat)
  | set (l : Nat) (cs : List AV) (v : Option AV)

def cellsK (ks : List IntKind) (xs : List Int) : List Value := List.zipWith Value.int ks xs
/-- == at type t compares numbers of these kinds. -/
def EqT (P : Program) (t : TypeId) (ks : List IntKind) : Prop := ∀ xs ys : List Int, xs.length = ks.length → ys.length = ks.length → ∀ w,
  (Op.equal t (.agg (cellsK ks xs).toArray) (.agg (cellsK ks ys).toArray)).run P w = .ok (decide (xs = ys)) w
def eqPair (k : IntKind) : AV → AV → Option (Bool × Bool)
  | .int k1 l x, .int k2 m y => if k1 = k ∧ k2 = k then some (l && m, x == y) else none
  | .bv k1 a, .bv k2 b => if h : k1 = k2 then (if k1 = k then some (false, a == h ▸ b) else none) else none
  | .int k1 l x, .bv k2 b => if k1 = k ∧ k2 = k then some (false, x == (b.toNat : Int)) else none
  | .bv k1 a, .int k2 m y => if k1 = k ∧ k2 = k then some (false, (a.toNat : Int) == y) else none
  | _, _ => none
def eqList : List IntKind → List AV → List AV → Option (Bool × Bool)
  | [], [], [] => some (true, true)
  | k :: ks, x :: xs, y :: ys => match eqPair k x y, eqList ks xs ys with
    | some (l, b), some (m, c) => some (l && m, b && c)
    | _, _ => none
  | _, _, _ => none
def pickA : AV → AV → AV → Option AV
  | .bool true c, a, b => some (bif c then a else b)
  | .bool false c, .bool _ a, .bool _ b => some (.bool false (bif c then a else b))
  | .bool false c, .int k _ a, .int k' _ b => if k = k' then some (.int k false (bif c then a else b)) else none
  | _, _, _ => none
def allOne : List AV → Bool
  | [] => true
  | c :: r => c.one && allOne r
def fillA (place : Nat → Option (Nat × Nat)) (cells : List AV) : List (Nat × AV) → Option (List AV)
  | [] => some cells
  | (i, v) :: rest =>
    match place i, v.cells with
    | some (off, size), some vs => if Nat.beq vs.length size && Nat.ble (off + vs.length) cells.length then fillA place (setsA cells off vs) rest else none
    | _, _ => none
def evs (f : Operand → Option AV) : List Operand → Option (List AV)
  | [] => some []
  | x :: r => match f x, evs f r with
    | some v, some vs => some (v :: vs)
    | _, _ => none
def evParts (f : Operand → Option AV) : List (Nat × Operand) → Option (List (Nat × AV))
  | [] => some []
  | (i, x) :: r => match f x, evParts f r with
    | some v, some vs => some ((i, v) :: vs)
    | _, _ => none
section
variable (P : Program) (eqs : TypeId → Option (List IntKind)) (H : List ABlk) (f : Operand → Option AV)
def zeroA (t : TypeId) : Option (List AV) := ((P.info? t).bind (·.zero)).map fun v => AV.ofCells v.cells.toList
def placesA : List Field → Option (List (Nat × Nat))
  | [] => some []
  | f :: r => match sizeA P f.type, placesA r with
    | some n, some l => some ((f.offset, n) :: l)
    | _, _ => none
def buildA (t : TypeId) (parts : List (Nat × AV)) : Option AV :=
  match zeroA P t, P.underlying t with
  | some z, some (.struct fs) => match placesA P fs.toList with
    | some pl => (fillA (fun i => pl[i]?) z parts).map .agg
    | none => none
  | some z, some (.array _ e) => match sizeA P e with
    | some n => (fillA (fun i => some (i * n, n)) z parts).map .agg
    | none => none
  | _, _ => none
def storeA (t : TypeId) : AV → AV → Option Res
  | .ptr l o, x => match H[l]?, x.cells, sizeA P t with
    | some (cs, _), some vs, some n => if Nat.beq vs.length n && Nat.ble (o + vs.length) cs.length && allOne vs then some (.set l (setsA cs o vs) none) else none
    | _, _, _ => none
  | _, _ => none
def eqlA (neg : Bool) (t : TypeId) : AV → AV → Option AV
  | .bool l a, .bool m b => match P.underlying t with
    | some .bool => some (.bool (l && m) (neg != (a == b)))
    | _ => none
  | .agg xs, .agg ys => match eqs t with
    | some ks => if P.eqGuardType P.depth t then none else match eqList ks xs ys with
      | some (l, b) => some (.bool l (neg != b))
      | none => none
    | none => none
  | .ptr _ _, .raw (.pointer none) => match P.underlying t with
    | some (.pointer _) => some (.bool true neg)
    | _ => none
  | .raw (.pointer none), .raw (.pointer none) => match P.underlying t with
    | some (.pointer _) => some (.bool true (!neg))
    | _ => none
  | .func _ _, .raw .nilFunc => match P.underlying t with
    | some (.func _ _ _) => some (.bool true neg)
    | _ => none
  | .raw (.string a), .raw (.string b) => some (.bool true (neg != (a.toList == b.toList)))
  | _, _ => none
def binOpA (op : BinOp) (t : TypeId) (x y : AV) : Option VC :=
  match binA op x y with
  | some r => some r
  | none => match op with
    | .eql => none' (eqlA P eqs false t x y)
    | .neq => none' (eqlA P eqs true t x y)
    | _ => none
def unA : UnOp → AV → Option AV
  | .not, .bool l b => some (.bool l !b)
  | .neg, .int k l n => some (.int k l (k.wrap (0 - n)))
  | .xor, .int k l n => some (.int k l (bits .xor k (if k.signed then -1 else k.max) n))
  | .xor, .bv k a => some (.bv k (~~~a))
  | _, _ => none
def convA (s d : TypeId) : AV → Option AV
  | .int _ l n => match P.underlying s, P.underlying d with
    | some _, some (.int k) => some (.int k l (k.wrap n))
    | _, _ => none
  | .bv _ a => match P.underlying s, P.underlying d with
    | some _, some (.int k) => if k.signed then some (.int k false (k.wrap (a.toNat : Int))) else some (.bv k (a.setWidth k.bits))
    | _, _ => none
  | _ => none
def fieldAddrA (t : TypeId) (i : Nat) : AV → Option AV
  | .ptr l o => match P.underlying t with
    | some (.struct fs) => match fs.toList[i]? with
      | some f => match sizeA P f.type with
        | some (_ + 1) => some (.ptr l (o + f.offset))
        | _ => none
      | none => none
    | _ => none
  | _ => none
def fieldA (t : TypeId) (i : Nat) : AV → Option AV
  | .agg cs => match P.underlying t with
    | some (.struct fs) => match fs.toList[i]? with
      | some f => partA P f.type cs f.offset
      | none => none
    | _ => none
  | _ => none
def litNat : AV → Option Nat
  | .int _ true n => if n < 0 then none else some n.toNat
  | _ => none
def indexAddrA (t : TypeId) (x : AV) (i : Nat) : Option AV :=
  match x, P.underlying t with
  | .ptr l o, some (.array n e) => match sizeA P e with
    | some s => if Nat.blt i n then some (.ptr l (o + i * s)) else none
    | none => none
  | .slice l o n _, some (.slice e) => match sizeA P e with
    | some s => if Nat.blt i n then some (.ptr l (o + i * s)) else none
    | none => none
  | _, _ => none
def indexA (t : TypeId) (x : AV) (i : Nat) : Option AV :=
  match x, P.underlying t with
  | .agg cs, some (.array n e) => match sizeA P e with
    | some s => if Nat.blt i n then partA P e cs (i * s) else none
    | none => none
  | _, _ => none
def boundA (d : Nat) : Option Operand → Option Nat
  | none => some d
  | some x => (f x).bind litNat
def sliceA (t : TypeId) (x : AV) (lo hi : Option Operand) : Option AV :=
  match x, P.underlying t with
  | .ptr l o, some (.array n e) => match boundA f 0 lo, boundA f n hi, sizeA P e with
    | some a, some b, some s => if Nat.ble a b && Nat.ble b n then some (.slice l (if n = a then o else o + a * s) (b - a) (n - a)) else none
    | _, _, _ => none
  | .slice l o m c, some (.slice e) => match boundA f 0 lo, boundA f m hi, sizeA P e with
    | some a, some b, some s => if Nat.ble a b && Nat.ble b c then some (.slice l (if c = a then o else o + a * s) (b - a) (c - a)) else none
    | _, _, _ => none
  | _, _ => none
def lenA (t : TypeId) (x : AV) : Option AV :=
  match x, P.underlying t with
  | .slice _ _ n _, some (.slice _) => some (.int .i64 true n)
  | .raw (.slice _ n _), some (.slice _) => some (.int .i64 true n)
  | .raw (.string s), some .string => some (.int .i64 true s.size)
  | _, some (.array n _) => some (.int .i64 true n)
  | _, _ => none
def makeSA (t : TypeId) (n c : Nat) : Option Res :=
  match P.underlying t with
  | some (.slice e) => match P.info? e with
    | some i => match i.zero with
      | some z => if Nat.ble n c && Nat.ble (i.bytes * c) 1000000 && Nat.ble c 1000000 && Nat.beq i.size 1 then match z with
          | .int k m => some (.newS (List.replicate c (.int k true m)) e n c)
          | _ => none
        else none
      | none => none
    | none => none
  | _ => none
def builtinA (c : Call) : Option Res := match c.callee with
  | .builtin .len => match c.args.toList, c.argTypes.toList with
    | [x], [t] => ((f x).bind (lenA P t)).map (.val · [])
    | _, _ => none
  | _ => none
def opA : Op → Option Res
  | .move x | .assign x => (f x).map (.val · [])
  | .pick c a b => match f c, f a, f b with
    | some c, some a, some b => (pickA c a b).map (.val · [])
    | _, _, _ => none
  | .alloc t => (zeroA P t).map (.new · t)
  | .box t x => ((f x).bind AV.cells).map (.new · t)
  | .build t parts => ((evParts f parts.toList).bind (buildA P t)).map (.val · [])
  | .load t a => ((f a).bind (loadA P H t)).map (.val · [])
  | .store t a x => match f a, f x with
    | some a, some x => storeA P H t a x
    | _, _ => none
  | .nilCheck x => match f x with
    | some (.ptr l o) => some (.val (.ptr l o) [])
    | _ => none
  | .binOp op t x y _ => match f x, f y with
    | some x, some y => (binOpA P eqs op t x y).map fun r => .val r.1 r.2
    | _, _ => none
  | .unOp op _ x => ((f x).bind (unA op)).map (.val · [])
  | .convert s d x => ((f x).bind (convA P s d)).map (.val · [])
  | .makeFunc fn first cap => if first.toList.length = 0 then (evs f cap.toList).map fun l => .val (.func fn l) [] else none
  | .makeSlice t n c => match (f n).bind litNat, (f c).bind litNat with
    | some n, some c => makeSA P t n c
    | _, _ => none
  | .slice t x lo hi mx => match f x, mx with
    | some x, none => (sliceA P f t x lo hi).map (.val · [])
    | _, _ => none
  | .fieldAddr t x i => ((f x).bind (fieldAddrA P t i)).map (.val · [])
  | .field t x i => ((f x).bind (fieldA P t i)).map (.val · [])
  | .indexAddr t x i => match f x, (f i).bind litNat with
    | some x, some i => (indexAddrA P t x i).map (.val · [])
    | _, _ => none
  | .index t x i => match f x, (f i).bind litNat with
    | some x, some i => (indexA P t x i).map (.val · [])
    | _, _ => none
  | .extract x i => match f x with
    | some (.tuple vs) => (vs[i]?).map (.val · [])
    | _ => none
  | .call c => builtinA P f c
  | _ => none
end
end Go.Proofs.Ytojmifniidddpaa
