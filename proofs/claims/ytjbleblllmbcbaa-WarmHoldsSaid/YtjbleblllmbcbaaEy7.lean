/- Code on values whose shape is known. No program of its own. No condition. -/
import Derived.Test.YtjbleblllmbcbaaEy6
import Derived.ScopeJumps
set_option linter.unusedVariables false
set_option linter.unusedSimpArgs false
namespace Go.Proofs.Ytjbleblllmbcbaa
open Go.RowKit

structure Env where
  P : Program
  eqs : TypeId → Option (List IntKind)
  rows : Rws
  ctr : FuncId → Option (List AV → Mem → Option VC)
  ctm : FuncId → Option (List AV → Mem → (Nat → Bool) → Option (AV × Mem × List Bool))
  pure : FuncId → Bool
  gen : FuncId → Bool
  eff : FuncId → Bool
/-- Memory: the known blocks; what the tests on variables say; of what labels blocks may be written. -/
structure AM where
  H : Mem
  ds : List Bool
  wr : Nat → Bool
structure ASt where
  tl : List AV
  m : AM
def allT : List Bool → Prop → Prop
  | [], p => p
  | c :: r, p => c = true ∧ allT r p
def evO (tl : List AV) : Operand → Option AV
  | .tmp t => tl[t]?
  | .const v => some (.ofValue v)
  | .func f => some (.func (.func f) [])
  | .global _ => none
def putA (tl : List AV) (d : Option Tmp) (v : AV) : List AV := match d with
  | some d => tl.set d v
  | none => tl
def ASt.put (st : ASt) (d : Option Tmp) (v : AV) : ASt := ⟨putA st.tl d v, st.m⟩
inductive AExit where
  | normal | exit (id : Nat) | goto (l : Nat) | ret
abbrev CallF := FuncId → List AV → AM → (AV → AM → Prop) → Prop
section
variable (E : Env) (call : CallF)
/-- A call from outside: by what is known of it, or carried out; p: it must write nothing of the caller's. -/
def callP (p : Bool) (f : FuncId) (args : List AV) (m : AM) (K : AV → AM → Prop) : Prop :=
  match E.ctr f with
  | some F => match F args m.H with
    | some (v, cs) => allT cs (K v m)
    | none => False
  | none => match E.ctm f with
    | some F => bif p then False else match F args m.H m.wr with
      | some (v, H', cs) => allT cs (K v ⟨H', m.ds, m.wr⟩)
      | none => False
    | none => bif p || E.pure f then call f args ⟨m.H, m.ds, fun l => Nat.ble (m.H.length + 1) l⟩ (fun v m' => match v.told? with
        | some _ => K v ⟨m.H, m'.ds, m.wr⟩
        | none => False)
      else call f args m K
/-- Readers of what is written through l know nothing any more. -/
def dropR (l : Nat) (H : Mem) : Mem := dropI (fun k it => !Nat.beq k l && Nat.beq (it.owner k) l) H
/-- What comes of an operation that is no call. -/
def resP (p : Bool) (r : Res) (o : Oper) (st : ASt) (K : ASt → Prop) : Prop :=
  match r with
  | .val v cs => allT cs (K (st.put o.dst v))
  | .new cs t => K ⟨putA st.tl o.dst (.ptr st.m.H.length 0), ⟨st.m.H ++ [.cells cs t], st.m.ds, st.m.wr⟩⟩
  | .newS cs t n c => K ⟨putA st.tl o.dst (.slice st.m.H.length 0 n c), ⟨st.m.H ++ [.cells cs t], st.m.ds, st.m.wr⟩⟩
  | .set l cs none => match st.m.H[l]? with
    | some (.cells _ t) => bif st.m.wr l && !p then K ⟨putA st.tl o.dst undefA, ⟨(dropR l st.m.H).set l (.cells cs t), st.m.ds, st.m.wr⟩⟩ else False
    | _ => False
  | .setR l F cs => match st.m.H[l]? with
    | some (.row n s _ t none) => bif st.m.wr l && !p then allT cs (K ⟨putA st.tl o.dst undefA, ⟨(dropR l st.m.H).set l (.row n s F t none), st.m.ds, st.m.wr⟩⟩) else False
    | _ => False
  | .app l n n' s F t cs => match st.m.H[l]? with
    | some (.row _ _ F0 _ none) => bif st.m.wr l && !p then allT cs (K ⟨putA st.tl o.dst (.gsl st.m.H.length 0 n'), ⟨(dropR l st.m.H).set l (.row n s F0 t (some st.m.H.length)) ++ [.row n' s F t none], st.m.ds, st.m.wr⟩⟩) else False
    | _ => False
  | .newR n s F t cs => bif p then False else allT cs (K ⟨putA st.tl o.dst (.gsl st.m.H.length 0 n), ⟨st.m.H ++ [.row n s F t none], st.m.ds, st.m.wr⟩⟩)
  | .newM m => K ⟨putA st.tl o.dst (.mp st.m.H.length), ⟨st.m.H ++ [.map m], st.m.ds, st.m.wr⟩⟩
  | .setM l m => match st.m.H[l]? with
    | some (.map _) => bif st.m.wr l && !p then K ⟨putA st.tl o.dst undefA, ⟨(dropR l st.m.H).set l (.map m), st.m.ds, st.m.wr⟩⟩ else False
    | _ => False
  | _ => False
/-- One operation that is wanted. -/
def doP (p : Bool) (o : Oper) (st : ASt) (K : ASt → Prop) : Prop :=
  match o.op with
  | .call ⟨.value g, args, ts⟩ => match evO st.tl g, evs (evO st.tl) args.toList with
    | some (.func (.func f) cap), some vs => callP E call p f (vs ++ cap) st.m (fun v m => K ⟨putA st.tl o.dst v, m⟩)
    | _, _ => False
  | op => match opA E.P E.rows E.eqs st.m.H (evO st.tl) op with
    | some r => resP p r o st K
    | none => False
def refineA (tl : List AV) (c : Operand) (z : Bool) : List AV := match c with
  | .tmp t => tl.set t (.bool true z)
  | _ => tl
/-- Is it wanted? -/
def guardP (ops : List Oper) (o : Oper) (st : ASt) (yes no : ASt → Prop) : Prop :=
  match o.guard with
  | none => yes st
  | some (j, want) => match (ops[j]?).bind (·.dst) with
    | none => False
    | some d => match st.tl[d]? with
      | some (.bool true b) => bif b == want then yes st else no st
      | some (.bool false b) => match st.m.ds with
        | c :: ds => b = c ∧ (bif c == want then yes ⟨st.tl.set d (.bool true c), ⟨st.m.H, ds, st.m.wr⟩⟩ else no ⟨st.tl.set d (.bool true c), ⟨st.m.H, ds, st.m.wr⟩⟩)
        | [] => False
      | _ => False
def stepP (p : Bool) (ops : List Oper) (o : Oper) (st : ASt) (K : ASt → Prop) : Prop :=
  guardP ops o st (fun st => doP E call p o st K) (fun st => K (st.put o.dst undefA))
def listP (ops : List Oper) : List Oper → ASt → (ASt → Prop) → Prop
  | [], st, K => K st
  | o :: r, st, K => stepP E call false ops o st (fun st => listP ops r st K)
end
/- A region that draws its order: the head in an order of ours, the tail as it lies. -/
def isMake (o : Oper) : Bool := match o.op with
  | .alloc _ | .box _ _ | .buildSlice _ _ _ | .makeSlice _ _ _ | .makeMap _ _ => true
  | _ => false
def isLate (o : Oper) : Bool := (match o.op with | .store _ _ _ | .assign _ | .mapUpdate _ _ _ _ => true | _ => false) && o.after.toList.any fun e => match e.ground with | .phase => true | _ => false
def dropLate : List Oper → List Oper
  | [] => []
  | o :: r => bif isLate o then dropLate r else o :: r
def rowsFrom (all : Array Oper) : Nat → List Oper → List Row4
  | _, [] => []
  | j, o :: r => rowOf .any all j o :: rowsFrom all (j + 1) r
def isSt (o : Oper) : Bool := match o.op with
  | .store _ _ _ => true
  | _ => false
def isEff (eff : FuncId → Bool) (o : Oper) : Bool := match o.op with
  | .call ⟨.builtin .append, _, _⟩ => true
  | .call ⟨.value (.func f), _, _⟩ => eff f
  | .mapUpdate _ _ _ _ => true
  | _ => false
def storesOf (eff : FuncId → Bool) : Nat → Nat → List Oper → Nat
  | _, _, [] => 0
  | n, j, o :: r => bif (isSt o || isEff eff o) && Nat.blt j n then Nat.lor (Nat.shiftLeft 1 j) (storesOf eff n (j + 1) r) else storesOf eff n (j + 1) r
def firstQ (T0 : List Row4) (G C n D : Nat) : List Row4 → Option Nat
  | [] => none
  | r :: T => bif Nat.blt r.1 n && !has G r.1 && !has C r.1 && readyM D r && freeM D r T0 then some r.1 else firstQ T0 G C n D T
def firstG (G n D : Nat) : List Row4 → Option Nat
  | [] => none
  | r :: T => bif Nat.blt r.1 n && has G r.1 && readyM D r then some r.1 else firstG G n D T
def firstG2 (G n D i : Nat) : List Row4 → Option Nat
  | [] => none
  | r :: T => bif Nat.blt r.1 n && has G r.1 && readyM D r && !Nat.beq r.1 i then some r.1 else firstG2 G n D i T
def ordFrom (T0 : List Row4) (G C n : Nat) : Nat → Nat → List (Mv × Nat)
  | 0, _ => []
  | k + 1, D => match firstQ T0 G C n D T0 with
    | some i => (bif chgM C D i T0 then .q i else .p i, Nat.lor D (Nat.shiftLeft 1 i)) :: ordFrom T0 G C n k (Nat.lor D (Nat.shiftLeft 1 i))
    | none => match firstG G n D T0 with
      | some i => match firstG2 G n D i T0 with
        | none => (.g i, Nat.lor D (Nat.shiftLeft 1 i)) :: ordFrom T0 G C n k (Nat.lor D (Nat.shiftLeft 1 i))
        | some j => (.gg i j, Nat.lor (Nat.lor D (Nat.shiftLeft 1 i)) (Nat.shiftLeft 1 j)) :: ordFrom T0 G C n k (Nat.lor (Nat.lor D (Nat.shiftLeft 1 i)) (Nat.shiftLeft 1 j))
      | none => match firstG C n D T0 with
        | some i => (.c i, Nat.lor D (Nat.shiftLeft 1 i)) :: ordFrom T0 G C n k (Nat.lor D (Nat.shiftLeft 1 i))
        | none => []
def tailFrom : Nat → Nat → Nat → List (Nat × Nat)
  | 0, _, _ => []
  | k + 1, i, D => (i, Nat.lor D (Nat.shiftLeft 1 i)) :: tailFrom k (i + 1) (Nat.lor D (Nat.shiftLeft 1 i))
def isGen (gen : FuncId → Bool) (o : Oper) : Bool := match o.op with
  | .call ⟨.value (.func f), _, _⟩ => gen f
  | _ => false
def makesOf (gen : FuncId → Bool) : Nat → List Oper → Nat
  | _, [] => 0
  | j, o :: r => bif isMake o || isGen gen o then Nat.lor (Nat.shiftLeft 1 j) (makesOf gen (j + 1) r) else makesOf gen (j + 1) r
structure Plan where
  n : Nat
  C : Nat
  G : Nat
  T0 : List Row4
  ord : List (Mv × Nat)
  tl : List (Nat × Nat)
def planAt (gen eff : FuncId → Bool) (l : List Oper) (n : Nat) : Plan :=
  let T0 := rowsFrom l.toArray 0 l
  let G := makesOf gen 0 l
  let C := storesOf eff n 0 l
  ⟨n, C, G, T0, ordFrom T0 G C n n 0, tailFrom (l.length - n) n (Nat.shiftLeft 1 n - 1)⟩
def Plan.ok (l : List Oper) (p : Plan) : Bool := regionB .any l p.n p.C p.G p.T0 p.ord p.tl
def planFrom (gen eff : FuncId → Bool) (l : List Oper) : Nat → Nat → Option Plan
  | 0, _ => none
  | k + 1, n =>
    let p := planAt gen eff l n
    bif p.ok l then some p else planFrom gen eff l k (n + 1)
def planOf (gen eff : FuncId → Bool) (l : List Oper) : Option Plan := planFrom gen eff l (l.length + 1 - (dropLate l.reverse).length) (dropLate l.reverse).length
section
variable (E : Env) (call : CallF)
/-- A call that makes blocks and writes none of ours. -/
def genP (o : Oper) (st : ASt) (K : ASt → Prop) : Prop :=
  match o.op with
  | .call ⟨.value g, args, ts⟩ => match evO st.tl g, evs (evO st.tl) args.toList with
    | some (.func (.func f) cap), some vs => call f (vs ++ cap) ⟨st.m.H, st.m.ds, fun _ => false⟩ (fun v m' => K ⟨putA st.tl o.dst v, ⟨m'.H, m'.ds, st.m.wr⟩⟩)
    | _, _ => False
  | _ => False
/-- A reading that may come up before or behind a store. -/
def calmP (stat : Option (Nat → Bool)) (o : Oper) (st : ASt) (K : AV → Prop) : Prop :=
  match opA E.P E.rows E.eqs [] (evO st.tl) o.op with
  | some (.val v cs) => allT cs (K v)
  | _ => match o.op with
    | .load t x => match evO st.tl x with
      | some (.ptr l off) => bif (stat.getD fun _ => false) l then match loadA E.P E.rows st.m.H t (.ptr l off) with
        | some v => K v
        | none => False
        else False
      | _ => False
    | _ => False
def headP (h0 : Nat) (stat : Option (Nat → Bool)) (ops : List Oper) : List (Mv × Nat) → ASt → (ASt → Prop) → Prop
  | [], st, K => K st
  | (.q i, _) :: r, st, K => match ops[i]? with
    | some o => bif isMake o then False else stepP E call true ops o st (fun st => headP h0 stat ops r st K)
    | none => False
  | (.g i, _) :: r, st, K => match ops[i]? with
    | some o => bif isMake o && o.guard.isNone then stepP E call true ops o st (fun st => headP h0 stat ops r st K) else
      bif o.guard.isNone && stat.isNone then genP call o st (fun st => headP h0 stat ops r st K) else False
    | none => False
  | (.gg i j, _) :: r, st, K => match ops[i]?, ops[j]? with
    | some o1, some o2 => bif o1.guard.isNone && o2.guard.isNone then
      match opA E.P E.rows E.eqs st.m.H (evO st.tl) o1.op, opA E.P E.rows E.eqs st.m.H (evO st.tl) o2.op with
      | some (.new c1 t1), some (.new c2 t2) => headP h0 stat ops r ⟨putA (putA st.tl o1.dst (.ptr st.m.H.length 0)) o2.dst (.ptr (st.m.H.length + 1) 0), ⟨st.m.H ++ [.cells c1 t1] ++ [.cells c2 t2], st.m.ds, st.m.wr⟩⟩ K
      | _, _ => False
      else False
    | _, _ => False
  | (.p i, _) :: r, st, K => match ops[i]? with
    | some o => guardP ops o st (fun st => calmP E stat o st (fun v => headP h0 stat ops r ⟨putA st.tl o.dst v, st.m⟩ K)) (fun st => headP h0 stat ops r (st.put o.dst undefA) K)
    | none => False
  | (.c i, _) :: r, st, K => match ops[i]? with
    | some o => bif o.guard.isNone then
      match stat with
      | none => doP E call false o ⟨st.tl, ⟨st.m.H, st.m.ds, fun l => st.m.wr l || Nat.ble h0 l⟩⟩ (fun st2 => headP h0 stat ops r ⟨st2.tl, ⟨st2.m.H, st2.m.ds, st.m.wr⟩⟩ K)
      | some s => match opA E.P E.rows E.eqs st.m.H (evO st.tl) o.op with
        | some (.set l cs none) => match st.m.H[l]? with
          | some (.cells _ t) => bif (st.m.wr l || Nat.ble h0 l) && !s l then headP h0 stat ops r ⟨putA st.tl o.dst undefA, ⟨(dropR l st.m.H).set l (.cells cs t), st.m.ds, st.m.wr⟩⟩ K else False
          | _ => False
        | _ => False
      else False
    | none => False
def memL (l : Nat) : List Nat → Bool
  | [] => false
  | x :: r => Nat.beq x l || memL l r
/-- The labels, known at the beginning, that the head's stores write. -/
def wrOf (tl : List AV) : List Oper → List Nat
  | [] => []
  | o :: r => match o.op with
    | .store _ x _ => match evO tl x with
      | some (.ptr l _) => l :: wrOf tl r
      | _ => wrOf tl r
    | _ => wrOf tl r
def anyEff (gen eff : FuncId → Bool) : List Oper → Bool
  | [] => false
  | o :: r => isEff eff o || isGen gen o || anyEff gen eff r
/-- Cells that nothing in the head writes. -/
def statOf (gen eff : FuncId → Bool) (st : ASt) (l : List Oper) (n : Nat) : Option (Nat → Bool) := bif anyEff gen eff (l.take n) then none else some fun i => Nat.blt i st.m.H.length && (match st.m.H[i]? with | some (.cells _ _) => true | _ => false) && !memL i (wrOf st.tl (l.take n))
def drawnP (l : List Oper) (st : ASt) (K : ASt → Prop) : Prop :=
  match planOf E.gen E.eff l with
  | some p => headP E call st.m.H.length (statOf E.gen E.eff st l p.n) l p.ord st (fun st => listP E call l (l.drop p.n) st K)
  | none => False
end
inductive Task where
  | code (c : Code)
  | inS (c0 c : Code)
  | inL (c : Code)
def resA (P : Program) (R : Rws) (H : Mem) (tl : List AV) : List ResultVar → Option (List AV)
  | [] => some []
  | .tmp t :: r => match tl[t]?, resA P R H tl r with
    | some v, some vs => some (v :: vs)
    | _, _ => none
  | .cell a t :: r => match (tl[a]?).bind (loadA P R H t), resA P R H tl r with
    | some v, some vs => some (v :: vs)
    | _, _ => none
def oneA : List AV → AV
  | [v] => v
  | vs => .tuple vs
def callWith (E : Env) (ev : Task → ASt → (AExit → ASt → Prop) → Prop) : CallF := fun f args m K =>
  match E.P.funcs[f]? with
  | some fn => match fn.body with
    | some c => bif fn.name == "runtime.NumGoroutine" then False else
      ev (.code c) ⟨args ++ List.replicate (fn.ntmps - args.length) undefA, m⟩ (fun e st => match e with
        | .normal | .ret => match resA E.P E.rows st.m.H st.tl fn.results.toList with
          | some vs => K (oneA vs) st.m
          | none => False
        | _ => False)
    | none => False
  | none => False
def evT (E : Env) : Nat → Task → ASt → (AExit → ASt → Prop) → Prop
  | 0, _, _, _ => False
  | n + 1, .inS c0 c, st, K => evT E n (.code c) st (fun e st => match e with
    | .goto l => match findLabel c0 l with
      | some rest => evT E n (.inS c0 rest) st K
      | none => False
    | e => K e st)
  | n + 1, .inL c, st, K => evT E n (.code c) st (fun e st => match e with
    | .normal => evT E n (.inL c) st K
    | e => K e st)
  | n + 1, .code c, st, K => match c with
    | .skip => K .normal st
    | .region _ ops false => listP E (callWith E (evT E n)) ops.toList ops.toList st (K .normal)
    | .region _ ops true => drawnP E (callWith E (evT E n)) ops.toList st (K .normal)
    | .seq a b => evT E n (.code a) st (fun e st => match e with
      | .normal => evT E n (.code b) st K
      | e => K e st)
    | .cond c a b => match evO st.tl c with
      | some (.bool true z) => bif z then evT E n (.code a) st K else evT E n (.code b) st K
      | some (.bool false z) => match st.m.ds with
        | d :: ds => z = d ∧ (bif d then evT E n (.code a) ⟨refineA st.tl c d, ⟨st.m.H, ds, st.m.wr⟩⟩ K else evT E n (.code b) ⟨refineA st.tl c d, ⟨st.m.H, ds, st.m.wr⟩⟩ K)
        | [] => False
      | _ => False
    | .block id c => evT E n (.code c) st (fun e st => match e with
      | .exit j => bif Nat.beq j id then K .normal st else K (.exit j) st
      | e => K e st)
    | .loop c => evT E n (.code c) st (fun e st => match e with
      | .normal => evT E n (.inL c) st K
      | e => K e st)
    | .exit id => K (.exit id) st
    | .goto l => K (.goto l) st
    | .label _ => K .normal st
    | .ret => K .ret st
    | .scope c => evT E n (.inS c c) st K
    | _ => False
/-- A call of a function, from outside. -/
def evCall (E : Env) (n : Nat) : CallF := callWith E (evT E n)
end Go.Proofs.Ytjbleblllmbcbaa
