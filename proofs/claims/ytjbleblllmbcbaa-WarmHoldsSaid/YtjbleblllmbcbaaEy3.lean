/- Operations on values whose shape is known. No program of its own. No condition. -/
import Derived.Test.YtjbleblllmbcbaaEy2
import Derived.Laws.StructEq
import Derived.Laws.Cover2
set_option linter.unusedVariables false
set_option linter.unusedSimpArgs false
namespace Go.Proofs.Ytjbleblllmbcbaa
open Go.RowKit

/-- What comes of an operation: a value, if so much is so; a new block and the pointer to it, or the slice of it; block l has other cells now. -/
inductive Res where
  | val (v : AV) (cs : List Bool)
  | new (cs : List AV) (t : TypeId)
  | newS (cs : List AV) (t : TypeId) (n c : Nat)
  | set (l : Nat) (cs : List AV) (v : Option AV)
  | setR (l : Nat) (F : Nat → List AV) (cs : List Bool)
  | app (l n n' s : Nat) (F : Nat → List AV) (t : TypeId) (cs : List Bool)
  | newR (n s : Nat) (F : Nat → List AV) (t : TypeId) (cs : List Bool)
  | newM (m : MapI)
  | setM (l : Nat) (m : MapI)

def Res.cs : Res → List Bool
  | .val _ cs | .setR _ _ cs | .app _ _ _ _ _ _ cs | .newR _ _ _ _ cs => cs
  | _ => []
/-- == at type t compares numbers of these kinds. -/
def EqT (P : Program) (t : TypeId) (ks : List IntKind) : Prop := ∀ xs ys : List Int, xs.length = ks.length → ys.length = ks.length → ∀ w,
  (Op.equal t (.agg (cellsK ks xs).toArray) (.agg (cellsK ks ys).toArray)).run P w = .ok (decide (xs = ys)) w
def eqPair (k : IntKind) : AV → AV → Option (Bool × Bool)
  | .int k1 l x, .int k2 m y => if k1 = k ∧ k2 = k then some (l && m, x == y) else none
  | .bv k1 a, .bv k2 b => if h : k1 = k2 then (if k1 = k then some (false, a == h ▸ b) else none) else none
  | .int k1 l x, .bv k2 b => if k1 = k ∧ k2 = k then some (false, x == (b.toNat : Int)) else none
  | .bv k1 a, .int k2 m y => if k1 = k ∧ k2 = k then some (false, (a.toNat : Int) == y) else none
  | _, _ => none
def eqList : List IntKind → List AV → List AV → Option (Bool × Bool)
  | [], [], [] => some (true, true)
  | k :: ks, x :: xs, y :: ys => match eqPair k x y, eqList ks xs ys with
    | some (l, b), some (m, c) => some (l && m, b && c)
    | _, _ => none
  | _, _, _ => none
def pickA : AV → AV → AV → Option AV
  | .bool true c, a, b => some (bif c then a else b)
  | .bool false c, .bool _ a, .bool _ b => some (.bool false (bif c then a else b))
  | .bool false c, .int k _ a, .int k' _ b => if k = k' then some (.int k false (bif c then a else b)) else none
  | _, _, _ => none
def allOne : List AV → Bool
  | [] => true
  | c :: r => c.one && allOne r
def fillA (place : Nat → Option (Nat × Nat)) (cells : List AV) : List (Nat × AV) → Option (List AV)
  | [] => some cells
  | (i, v) :: rest =>
    match place i, v.cells with
    | some (off, size), some vs => if Nat.beq vs.length size && Nat.ble (off + vs.length) cells.length then fillA place (setsA cells off vs) rest else none
    | _, _ => none
def evs (f : Operand → Option AV) : List Operand → Option (List AV)
  | [] => some []
  | x :: r => match f x, evs f r with
    | some v, some vs => some (v :: vs)
    | _, _ => none
def evParts (f : Operand → Option AV) : List (Nat × Operand) → Option (List (Nat × AV))
  | [] => some []
  | (i, x) :: r => match f x, evParts f r with
    | some v, some vs => some ((i, v) :: vs)
    | _, _ => none
def undefA : AV := .raw undef
def strAddA : AV → AV → Option AV
  | .raw (.string a), .raw (.string b) => bif Nat.ble (a.size + b.size) 1000000 then some (.raw (.string (a ++ b))) else none
  | _, _ => none
section
variable (P : Program) (R : Rws) (eqs : TypeId → Option (List IntKind)) (H : Mem) (f : Operand → Option AV)
def zeroA (t : TypeId) : Option (List AV) := ((P.info? t).bind (·.zero)).map fun v => AV.ofCells v.cells.toList
def placesA : List Field → Option (List (Nat × Nat))
  | [] => some []
  | f :: r => match sizeA P f.type, placesA r with
    | some n, some l => some ((f.offset, n) :: l)
    | _, _ => none
def buildA (t : TypeId) (parts : List (Nat × AV)) : Option AV :=
  match zeroA P t, P.underlying t with
  | some z, some (.struct fs) => match placesA P fs.toList with
    | some pl => (fillA (fun i => pl[i]?) z parts).map .agg
    | none => none
  | some z, some (.array _ e) => match sizeA P e with
    | some n => (fillA (fun i => some (i * n, n)) z parts).map .agg
    | none => none
  | _, _ => none
def storeA (t : TypeId) : AV → AV → Option Res
  | .ptr l o, x => match H[l]?, x.cells, sizeA P t with
    | some (.cells cs _), some vs, some n => if Nat.beq vs.length n && Nat.ble (o + vs.length) cs.length && allOne vs then some (.set l (setsA cs o vs) none) else none
    | _, _, _ => none
  | .gptr l i o, x => match H[l]?, x.cells, sizeA P t with
    | some (.row n s F _ none), some vs, some k => if Nat.beq vs.length k && Nat.ble (o + vs.length) (F i.toNat).length && allOne vs && (AV.vals? vs).isSome then
        some (.setR l (fun j => bif Nat.beq j i.toNat then setsA (F j) o vs else F j) [decide (0 ≤ i ∧ i < n)]) else none
    | _, _, _ => none
  | _, _ => none
def eqlA (neg : Bool) (t : TypeId) : AV → AV → Option AV
  | .bool l a, .bool m b => match P.underlying t with
    | some .bool => some (.bool (l && m) (neg != (a == b)))
    | _ => none
  | .agg xs, .agg ys => match eqs t with
    | some ks => if P.eqGuardType P.depth t then none else match eqList ks xs ys with
      | some (l, b) => some (.bool l (neg != b))
      | none => none
    | none => none
  | .mp _, .raw (.map none) => match P.underlying t with
    | some (.map _ _) => some (.bool true neg)
    | _ => none
  | .raw (.map none), .raw (.map none) => match P.underlying t with
    | some (.map _ _) => some (.bool true (!neg))
    | _ => none
  | .ptr _ _, .raw (.pointer none) => match P.underlying t with
    | some (.pointer _) => some (.bool true neg)
    | _ => none
  | .raw (.pointer none), .raw (.pointer none) => match P.underlying t with
    | some (.pointer _) => some (.bool true (!neg))
    | _ => none
  | .func _ _, .raw .nilFunc => match P.underlying t with
    | some (.func _ _ _) => some (.bool true neg)
    | _ => none
  | .raw (.string a), .raw (.string b) => some (.bool true (neg != (a.toList == b.toList)))
  | _, _ => none
def binOpA (op : BinOp) (t : TypeId) (x y : AV) : Option VC :=
  match binA op x y with
  | some r => some r
  | none => match op with
    | .add => none' (strAddA x y)
    | .eql => none' (eqlA P eqs false t x y)
    | .neq => none' (eqlA P eqs true t x y)
    | _ => none
def unA : UnOp → AV → Option AV
  | .not, .bool l b => some (.bool l !b)
  | .neg, .int k l n => some (.int k l (k.wrap (0 - n)))
  | .xor, .int k l n => some (.int k l (bits .xor k (if k.signed then -1 else k.max) n))
  | .xor, .bv k a => some (.bv k (~~~a))
  | _, _ => none
def convA (s d : TypeId) : AV → Option AV
  | .int _ l n => match P.underlying s, P.underlying d with
    | some _, some (.int k) => some (.int k l (k.wrap n))
    | _, _ => none
  | .bv _ a => match P.underlying s, P.underlying d with
    | some _, some (.int k) => if k.signed then some (.int k false (k.wrap (a.toNat : Int))) else some (.bv k (a.setWidth k.bits))
    | _, _ => none
  | _ => none
def fieldAddrA (t : TypeId) (i : Nat) : AV → Option AV
  | .ptr l o => match P.underlying t with
    | some (.struct fs) => match fs.toList[i]? with
      | some f => match sizeA P f.type with
        | some (_ + 1) => some (.ptr l (o + f.offset))
        | _ => none
      | none => none
    | _ => none
  | .rptr j k o => match P.underlying t with
    | some (.struct fs) => match fs.toList[i]? with
      | some f => match sizeA P f.type with
        | some (_ + 1) => some (.rptr j k (o + f.offset))
        | _ => none
      | none => none
    | _ => none
  | .gptr l k o => match P.underlying t with
    | some (.struct fs) => match fs.toList[i]? with
      | some f => match sizeA P f.type with
        | some (_ + 1) => some (.gptr l k (o + f.offset))
        | _ => none
      | none => none
    | _ => none
  | _ => none
def fieldA (t : TypeId) (i : Nat) : AV → Option AV
  | .agg cs => match P.underlying t with
    | some (.struct fs) => match fs.toList[i]? with
      | some f => partA P f.type cs f.offset
      | none => none
    | _ => none
  | _ => none
def litNat : AV → Option Nat
  | .int _ true n => if n < 0 then none else some n.toNat
  | _ => none
def indexAddrA (t : TypeId) (x : AV) (i : Nat) : Option AV :=
  match x, P.underlying t with
  | .ptr l o, some (.array n e) => match sizeA P e with
    | some s => if Nat.blt i n then some (.ptr l (o + i * s)) else none
    | none => none
  | .slice l o n _, some (.slice e) => match sizeA P e with
    | some s => if Nat.blt i n then some (.ptr l (o + i * s)) else none
    | none => none
  | _, _ => none
def indexA (t : TypeId) (x : AV) (i : Nat) : Option AV :=
  match x, P.underlying t with
  | .agg cs, some (.array n e) => match sizeA P e with
    | some s => if Nat.blt i n then partA P e cs (i * s) else none
    | none => none
  | _, _ => none
def boundA (d : Nat) : Option Operand → Option Nat
  | none => some d
  | some x => (f x).bind litNat
def intO (d : Int) : Option Operand → Option Int
  | none => some d
  | some x => match f x with
    | some (.int _ _ k) => some k
    | _ => none
def sliceA (t : TypeId) (x : AV) (lo hi : Option Operand) : Option AV :=
  match x, P.underlying t with
  | .ptr l o, some (.array n e) => match boundA f 0 lo, boundA f n hi, sizeA P e with
    | some a, some b, some s => if Nat.ble a b && Nat.ble b n then some (.slice l (if n = a then o else o + a * s) (b - a) (n - a)) else none
    | _, _, _ => none
  | .slice l o m c, some (.slice e) => match boundA f 0 lo, boundA f m hi, sizeA P e with
    | some a, some b, some s => if Nat.ble a b && Nat.ble b c then some (.slice l (if c = a then o else o + a * s) (b - a) (c - a)) else none
    | _, _, _ => none
  | _, _ => none
def lenA (t : TypeId) (x : AV) : Option AV :=
  match x, P.underlying t with
  | .slice _ _ n _, some (.slice _) => some (.int .i64 true n)
  | .raw (.slice _ n _), some (.slice _) => some (.int .i64 true n)
  | .rsl _ n _, some (.slice _) => some (.int .i64 false n)
  | .gsl _ _ n, some (.slice _) => some (.int .i64 false n)
  | .raw (.string s), some .string => some (.int .i64 true s.size)
  | _, some (.array n _) => some (.int .i64 true n)
  | _, _ => none
def makeSA (t : TypeId) (n c : Nat) : Option Res :=
  match P.underlying t with
  | some (.slice e) => match P.info? e with
    | some i => match i.zero with
      | some z => if Nat.ble n c && Nat.ble (i.bytes * c) 1000000 && Nat.ble c 1000000 && Nat.beq i.size 1 then match z with
          | .int k m => some (.newS (List.replicate c (.int k true m)) e n c)
          | _ => none
        else none
      | none => none
    | none => none
  | _ => none
/-- Slices that are laid out. -/
def initA (z : List AV) (m : Nat) : List AV := (List.range m).map fun j => z.getD (j % z.length) undefA
def buildSliceA (t : TypeId) (n : Nat) (ps : List (Nat × AV)) : Option Res :=
  match P.underlying t with
  | some (.slice e) => match sizeA P e, zeroA P e with
    | some s, some z => bif Nat.ble (n * s) 10000 && Nat.beq z.length s && Nat.blt 0 s then (fillA (fun i => some (i * s, s)) (initA z (n * s)) ps).map fun cs => .newS cs e n n else none
    | _, _ => none
  | _ => none
def intsOf : List AV → Option (List Int)
  | [] => some []
  | .int .u8 _ v :: r => (intsOf r).map (v :: ·)
  | _ => none
def strOf (ns : List Int) : ByteArray := ns.foldl (fun r n => r.push (UInt8.ofNat n.toNat)) ByteArray.empty
def convStrA (s d : TypeId) : AV → Option AV
  | .slice l o n _ => match P.underlying s, P.underlying d, H[l]? with
    | some (.slice e), some .string, some (.cells cs _) => match P.underlying e with
      | some (.int .u8) => match intsOf ((cs.drop o).take n) with
        | some ns => bif Nat.beq ns.length n then some (.raw (.string (strOf ns))) else none
        | none => none
      | _ => none
    | _, _, _ => none
  | _ => none
def minA (mx : Bool) : AV → AV → Option AV
  | .int k l x, .int _ m y => some (.int k (l && m) (bif mx then (if y > x then y else x) else (if y < x then y else x)))
  | _, _ => none
/-- What is laid on: elements of s cells, so many, and how they look. -/
def newsA (s : Nat) : AV → Option (Nat × (Nat → List AV) × List Bool)
  | .slice l o m _ => match H[l]? with
    | some (.cells cs _) => bif Nat.ble (o + m * s) cs.length && allOne ((cs.drop o).take (m * s)) && (AV.vals? ((cs.drop o).take (m * s))).isSome then some (m, fun i => (((cs.drop o).take (m * s)).drop (i * s)).take s, []) else none
    | _ => none
  | .gsl l off m => match H[l]? with
    | some (.row n s' F _ _) => if s' = s then some (m, fun i => F (off + i), [decide (off + m ≤ n)]) else none
    | _ => none
  | .rsl j m _ => match R j with
    | some r => if r.s = s then some (m, fun i => r.F i, []) else none
    | none => none
  | _ => none
def appendA (t : TypeId) (x y : AV) : Option Res :=
  match P.underlying t with
  | some (.slice e) => match P.info? e with
    | some i => match i.zero with
      | some z => bif Nat.blt 0 i.size && Nat.beq z.cells.size i.size && Nat.ble i.bytes 1000 then match x with
        | .gsl l 0 n => match H[l]?, newsA R H i.size y with
          | some (.row N s F e' none), some (m, G, cs) => if s = i.size ∧ e' = e then some (.app l n (n + m) s (fun i => bif Nat.blt i n then F i else G (i - n)) e (decide (0 < m) :: decide (n ≤ N) :: decide (n + m ≤ 1000000) :: cs)) else none
          | _, _ => none
        | .raw (.slice none 0 0) => match newsA R H i.size y with
          | some (m, G, cs) => some (.newR m i.size G e (decide (0 < m) :: decide (m ≤ 1000000) :: cs))
          | none => none
        | _ => none
        else none
      | none => none
    | none => none
  | _ => none
/-- Types that keys may have: rows of numbers. -/
def keyT (P : Program) : Nat → TypeId → Bool
  | 0, _ => false
  | n + 1, t => match P.underlying t with
    | some (.int _) => true
    | some (.array m e) => keyT P n e && (match sizeA P e, sizeA P t, aggA P e with
      | some s, some z, some _ => Nat.ble (m * s) z && Nat.blt 0 s
      | _, _, _ => false)
    | some (.struct fs) => fs.toList.all fun f => keyT P n f.type && (match sizeA P f.type, sizeA P t, aggA P f.type with
      | some s, some z, some _ => Nat.ble (f.offset + s) z && Nat.blt 0 s
      | _, _, _ => false)
    | _ => false
def keyC (k : IntKind) : AV → Option Int
  | .int k' _ n => if k' = k then some n else none
  | .bv k' a => if k' = k then some (a.toNat : Int) else none
  | .raw (.int k' n) => if k' = k then some n else none
  | _ => none
def keyN : List IntKind → List AV → Option (List Int)
  | [], [] => some []
  | k :: ks, a :: r => match keyC k a, keyN ks r with
    | some n, some ns => some (n :: ns)
    | _, _ => none
  | _, _ => none
def ckOf : AV → Option CK
  | .bool _ _ => some .bool
  | .int k _ _ => some (if k = .u64 then .bv k else .int k)
  | _ => none
def ckOfL : List AV → Option (List CK)
  | [] => some []
  | a :: r => match ckOf a, ckOfL r with
    | some c, some cs => some (c :: cs)
    | _, _ => none
def zeroV (P : Program) (e : TypeId) : Option (Bool × List Value) := match (P.info? e).bind (·.zero) with
  | some (.agg cs) => some (true, cs.toList)
  | some v => some (false, [v])
  | none => none
/-- The kinds of a map from k to e: of the keys' numbers; are the values of many cells; of their cells; the nought. -/
def mapT (k e : TypeId) : Option (List IntKind × Bool × List CK × List Value) :=
  match eqs k, sizeA P k, aggA P k, zeroV P e with
  | some ks, some z, some true, some (g, zv) => bif keyT P 9 k && Nat.beq z ks.length then match ckOfL (AV.ofCells zv) with
      | some cs => bif fitL cs (AV.ofCells zv) && (g || Nat.beq cs.length 1) then some (ks, g, cs, zv) else none
      | none => none
    else none
  | _, _, _, _ => none
def isAggA : AV → Bool
  | .agg _ => true
  | _ => false
def makeMA (t : TypeId) : Option Res := match P.underlying t with
  | some (.map k e) => match mapT P eqs k e with
    | some (ks, g, cs, _) => some (.newM ⟨ks, g, cs, []⟩)
    | none => none
  | _ => none
def eqKs : List IntKind → List IntKind → Bool
  | [], [] => true
  | a :: r, b :: s => (if a = b then true else false) && eqKs r s
  | _, _ => false
def eqCK : CK → CK → Bool
  | .bool, .bool => true
  | .int a, .int b => if a = b then true else false
  | .bv a, .bv b => if a = b then true else false
  | _, _ => false
def eqCs : List CK → List CK → Bool
  | [], [] => true
  | a :: r, b :: s => eqCK a b && eqCs r s
  | _, _ => false
def lookupA (t : TypeId) (ok : Bool) : AV → AV → Option AV
  | .mp l, .agg kc => match P.underlying t, H[l]? with
    | some (.map k e), some (.map m) => match mapT P eqs k e with
      | some (ks, g, cs, zv) => bif eqKs ks m.ks && g == m.g && eqCs cs m.cs then match keyN m.ks kc with
          | some ns => some (bif ok then .tuple [decM m.g m.cs ((lookM ns m.E).getD zv), .bool false (lookM ns m.E).isSome] else decM m.g m.cs ((lookM ns m.E).getD zv))
          | none => none
        else none
      | none => none
    | _, _ => none
  | _, _ => none
def updateA (t : TypeId) : AV → AV → AV → Option Res
  | .mp l, .agg kc, v => match P.underlying t, H[l]? with
    | some (.map k e), some (.map m) => match mapT P eqs k e, v.cells with
      | some (ks, g, cs, _), some vc => bif eqKs ks m.ks && g == m.g && eqCs cs m.cs && isAggA v == m.g && fitL m.cs vc then match keyN m.ks kc, AV.vals? vc with
          | some ns, some vs => some (.setM l ⟨m.ks, m.g, m.cs, putM ns vs m.E⟩)
          | _, _ => none
        else none
      | _, _ => none
    | _, _ => none
  | _, _, _ => none
def lenMA (t : TypeId) : AV → Option AV
  | .mp l => match P.underlying t, H[l]? with
    | some (.map _ _), some (.map m) => some (.int .i64 false m.E.length)
    | _, _ => none
  | _ => none
def builtinA (c : Call) : Option Res := match c.callee with
  | .builtin .len => match c.args.toList, c.argTypes.toList with
    | [x], [t] => match (f x).bind (lenA P t) with
      | some v => some (.val v [])
      | none => ((f x).bind (lenMA P H t)).map (.val · [])
    | _, _ => none
  | .builtin .append => match c.args.toList, c.argTypes.toList with
    | [x, y], [t, t'] => if t' = t then match f x, f y with
      | some x, some y => appendA P R H t x y
      | _, _ => none
      else none
    | _, _ => none
  | .builtin .min => match c.args.toList with
    | [x, y] => match f x, f y with
      | some x, some y => (minA false x y).map (.val · [])
      | _, _ => none
    | _ => none
  | .builtin .max => match c.args.toList with
    | [x, y] => match f x, f y with
      | some x, some y => (minA true x y).map (.val · [])
      | _, _ => none
    | _ => none
  | _ => none
def opA : Op → Option Res
  | .move x | .assign x => (f x).map (.val · [])
  | .pick c a b => match f c, f a, f b with
    | some c, some a, some b => (pickA c a b).map (.val · [])
    | _, _, _ => none
  | .alloc t => (zeroA P t).map (.new · t)
  | .box t x => ((f x).bind AV.cells).map (.new · t)
  | .build t parts => ((evParts f parts.toList).bind (buildA P t)).map (.val · [])
  | .load t a => match f a with
    | some (.gptr l i o) => match H[l]? with
      | some (.row n _ F _ _) => (partA P t (F i.toNat) o).map (.val · [decide (0 ≤ i ∧ i < n)])
      | _ => none
    | x => (x.bind (loadA P R H t)).map (.val · [])
  | .store t a x => match f a, f x with
    | some a, some x => storeA P H t a x
    | _, _ => none
  | .nilCheck x => match f x with
    | some (.ptr l o) => some (.val (.ptr l o) [])
    | some (.rptr j i o) => some (.val (.rptr j i o) [])
    | some (.gptr j i o) => some (.val (.gptr j i o) [])
    | _ => none
  | .binOp op t x y _ => match f x, f y with
    | some x, some y => (binOpA P eqs op t x y).map fun r => .val r.1 r.2
    | _, _ => none
  | .unOp op _ x => ((f x).bind (unA op)).map (.val · [])
  | .convert s d x => match (f x).bind (convA P s d) with
    | some v => some (.val v [])
    | none => ((f x).bind (convStrA P H s d)).map (.val · [])
  | .buildSlice t n parts => (evParts f parts.toList).bind (buildSliceA P t n)
  | .makeFunc fn first cap => if first.toList.length = 0 then (evs f cap.toList).map fun l => .val (.func fn l) [] else none
  | .makeSlice t n c => match (f n).bind litNat, (f c).bind litNat with
    | some n, some c => makeSA P t n c
    | _, _ => none
  | .slice t x lo hi mx => match f x, mx with
    | some (.rsl j n c), none => match lo, hi, R j, P.underlying t with
      | some lo, none, some r, some (.slice e) => match (f lo).bind litNat, sizeA P e with
        | some a, some s => match subOf a r.sub with
          | some j' => match R j' with
            | some r' => if s = r.s then some (.val (.rsl j' r'.n (c - a)) [decide (a < n)]) else none
            | none => none
          | none => none
        | _, _ => none
      | _, _, _, _ => none
    | some (.gsl l off n), none => match P.underlying t with
      | some (.slice e) => match H[l]? with
        | some (.row _ s _ _ _) => match sizeA P e with
          | some s' => if s' = s then match intO f 0 lo, intO f n hi with
            | some a, some b => some (.val (.gsl l (off + a.toNat) (b - a).toNat) (decide (0 ≤ a ∧ a ≤ b ∧ b ≤ n) :: (match lo with | none => [] | some _ => [decide (a < n)])))
            | _, _ => none
            else none
          | none => none
        | _ => none
      | _ => none
    | some x, none => (sliceA P f t x lo hi).map (.val · [])
    | _, _ => none
  | .fieldAddr t x i => ((f x).bind (fieldAddrA P t i)).map (.val · [])
  | .field t x i => ((f x).bind (fieldA P t i)).map (.val · [])
  | .indexAddr t x i => match f x with
    | some (.rsl j n c) => match f i, P.underlying t, R j with
      | some (.int _ _ k), some (.slice e), some r => match sizeA P e with
        | some s => if s = r.s then some (.val (.rptr j k 0) [decide (0 ≤ k ∧ k < n)]) else none
        | none => none
      | _, _, _ => none
    | some (.gsl l off n) => match f i, P.underlying t, H[l]? with
      | some (.int _ _ k), some (.slice e), some (.row _ s _ _ _) => match sizeA P e with
        | some s' => if s' = s then some (.val (.gptr l ((off : Int) + k) 0) [decide (0 ≤ k ∧ k < n)]) else none
        | none => none
      | _, _, _ => none
    | some x => match (f i).bind litNat with
      | some i => (indexAddrA P t x i).map (.val · [])
      | none => none
    | none => none
  | .index t x i => match f x, (f i).bind litNat with
    | some x, some i => (indexA P t x i).map (.val · [])
    | _, _ => none
  | .extract x i => match f x with
    | some (.tuple vs) => (vs[i]?).map (.val · [])
    | _ => none
  | .makeMap t none => makeMA P eqs t
  | .lookup t x k ok => match f x, f k with
    | some x, some k => (lookupA P eqs H t ok x k).map (.val · [])
    | _, _ => none
  | .mapUpdate t x k v => match f x, f k, f v with
    | some x, some k, some v => updateA P eqs H t x k v
    | _, _, _ => none
  | .call c => builtinA P R H f c
  | _ => none
end
end Go.Proofs.Ytjbleblllmbcbaa
