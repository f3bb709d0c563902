/- Code on values whose shape is known. No program of its own. No condition. -/
import Derived.Test.YtojmifniidddpaaEv6
import Derived.ScopeJumps
set_option linter.unusedVariables false
set_option linter.unusedSimpArgs false
namespace Go.Proofs.Ytojmifniidddpaa
open Go.RowKit

structure Env where
  P : Program
  eqs : TypeId → Option (List IntKind)
  ctr : FuncId → Option (List AV → Option VC)
  pure : FuncId → Bool
/-- Memory: the known blocks; what the tests on variables say; blocks of labels below lo are not written. -/
structure AM where
  H : List ABlk
  ds : List Bool
  lo : Nat
structure ASt where
  tl : List AV
  m : AM
def allT : List Bool → Prop → Prop
  | [], p => p
  | c :: r, p => c = true ∧ allT r p
def evO (tl : List AV) : Operand → Option AV
  | .tmp t => tl[t]?
  | .const v => some (.ofValue v)
  | .func f => some (.func (.func f) [])
  | .global _ => none
def undefA : AV := .raw undef
def putA (tl : List AV) (d : Option Tmp) (v : AV) : List AV := match d with
  | some d => tl.set d v
  | none => tl
def ASt.put (st : ASt) (d : Option Tmp) (v : AV) : ASt := ⟨putA st.tl d v, st.m⟩
inductive AExit where
  | normal | exit (id : Nat) | goto (l : Nat) | ret
abbrev CallF := FuncId → List AV → AM → (AV → AM → Prop) → Prop
section
variable (E : Env) (call : CallF)
/-- A call from outside: by what is known of it, or carried out; p: it must write nothing of the caller's. -/
def callP (p : Bool) (f : FuncId) (args : List AV) (m : AM) (K : AV → AM → Prop) : Prop :=
  match E.ctr f with
  | some F => match F args with
    | some (v, cs) => allT cs (K v m)
    | none => False
  | none => bif p || E.pure f then call f args ⟨m.H, m.ds, m.H.length⟩ (fun v m' => match v.told? with
      | some _ => K v ⟨m.H, m'.ds, m.lo⟩
      | none => False)
    else call f args m K
/-- One operation that is wanted. -/
def doP (p : Bool) (o : Oper) (st : ASt) (K : ASt → Prop) : Prop :=
  match o.op with
  | .call ⟨.value g, args, ts⟩ => match evO st.tl g, evs (evO st.tl) args.toList with
    | some (.func (.func f) cap), some vs => callP E call p f (vs ++ cap) st.m (fun v m => K ⟨putA st.tl o.dst v, m⟩)
    | _, _ => False
  | op => match opA E.P E.eqs st.m.H (evO st.tl) op with
    | some (.val v cs) => allT cs (K (st.put o.dst v))
    | some (.new cs t) => K ⟨putA st.tl o.dst (.ptr st.m.H.length 0), ⟨st.m.H ++ [(cs, t)], st.m.ds, st.m.lo⟩⟩
    | some (.newS cs t n c) => K ⟨putA st.tl o.dst (.slice st.m.H.length 0 n c), ⟨st.m.H ++ [(cs, t)], st.m.ds, st.m.lo⟩⟩
    | some (.set l cs none) => match st.m.H[l]? with
      | some (_, t) => bif Nat.ble st.m.lo l && !p then K ⟨putA st.tl o.dst undefA, ⟨st.m.H.set l (cs, t), st.m.ds, st.m.lo⟩⟩ else False
      | none => False
    | _ => False
/-- Is it wanted? -/
def guardP (ops : List Oper) (o : Oper) (st : ASt) (yes no : ASt → Prop) : Prop :=
  match o.guard with
  | none => yes st
  | some (j, want) => match (ops[j]?).bind (·.dst) with
    | none => False
    | some d => match st.tl[d]? with
      | some (.bool true b) => bif b == want then yes st else no st
      | some (.bool false b) => match st.m.ds with
        | c :: ds => b = c ∧ (bif c == want then yes ⟨st.tl, ⟨st.m.H, ds, st.m.lo⟩⟩ else no ⟨st.tl, ⟨st.m.H, ds, st.m.lo⟩⟩)
        | [] => False
      | _ => False
def stepP (p : Bool) (ops : List Oper) (o : Oper) (st : ASt) (K : ASt → Prop) : Prop :=
  guardP ops o st (fun st => doP E call p o st K) (fun st => K (st.put o.dst undefA))
def listP (ops : List Oper) : List Oper → ASt → (ASt → Prop) → Prop
  | [], st, K => K st
  | o :: r, st, K => stepP E call false ops o st (fun st => listP ops r st K)
end
/- A region that draws its order: the head in an order of ours, the tail as it lies. -/
def isMake (o : Oper) : Bool := match o.op with
  | .alloc _ | .box _ _ | .buildSlice _ _ _ | .makeSlice _ _ _ => true
  | _ => false
def isLate (o : Oper) : Bool := (match o.op with | .store _ _ _ | .assign _ => true | _ => false) && o.after.toList.any fun e => match e.ground with | .phase => true | _ => false
def dropLate : List Oper → List Oper
  | [] => []
  | o :: r => bif isLate o then dropLate r else o :: r
def rowsFrom (all : Array Oper) : Nat → List Oper → List Row4
  | _, [] => []
  | j, o :: r => rowOf .any all j o :: rowsFrom all (j + 1) r
def firstQ (T0 : List Row4) (G n D : Nat) : List Row4 → Option Nat
  | [] => none
  | r :: T => bif Nat.blt r.1 n && !has G r.1 && readyM D r && freeM D r T0 then some r.1 else firstQ T0 G n D T
def firstG (G n D : Nat) : List Row4 → Option Nat
  | [] => none
  | r :: T => bif Nat.blt r.1 n && has G r.1 && readyM D r then some r.1 else firstG G n D T
def ordFrom (T0 : List Row4) (G n : Nat) : Nat → Nat → List (Mv × Nat)
  | 0, _ => []
  | k + 1, D => match firstQ T0 G n D T0 with
    | some i => (.q i, Nat.lor D (Nat.shiftLeft 1 i)) :: ordFrom T0 G n k (Nat.lor D (Nat.shiftLeft 1 i))
    | none => match firstG G n D T0 with
      | some i => (.g i, Nat.lor D (Nat.shiftLeft 1 i)) :: ordFrom T0 G n k (Nat.lor D (Nat.shiftLeft 1 i))
      | none => []
def tailFrom : Nat → Nat → Nat → List (Nat × Nat)
  | 0, _, _ => []
  | k + 1, i, D => (i, Nat.lor D (Nat.shiftLeft 1 i)) :: tailFrom k (i + 1) (Nat.lor D (Nat.shiftLeft 1 i))
def makesOf : Nat → List Oper → Nat
  | _, [] => 0
  | j, o :: r => bif isMake o then Nat.lor (Nat.shiftLeft 1 j) (makesOf (j + 1) r) else makesOf (j + 1) r
structure Plan where
  n : Nat
  G : Nat
  T0 : List Row4
  ord : List (Mv × Nat)
  tl : List (Nat × Nat)
def planAt (l : List Oper) (n : Nat) : Plan :=
  let T0 := rowsFrom l.toArray 0 l
  let G := makesOf 0 l
  ⟨n, G, T0, ordFrom T0 G n n 0, tailFrom (l.length - n) n (Nat.shiftLeft 1 n - 1)⟩
def Plan.ok (l : List Oper) (p : Plan) : Bool := regionB .any l p.n 0 p.G p.T0 p.ord p.tl
def planOf (l : List Oper) : Option Plan :=
  let p := planAt l (dropLate l.reverse).length
  bif p.ok l then some p else
    let q := planAt l l.length
    bif q.ok l then some q else none
section
variable (E : Env) (call : CallF)
def headP (ops : List Oper) : List (Mv × Nat) → ASt → (ASt → Prop) → Prop
  | [], st, K => K st
  | (.q i, _) :: r, st, K => match ops[i]? with
    | some o => bif isMake o then False else stepP E call true ops o st (fun st => headP ops r st K)
    | none => False
  | (.g i, _) :: r, st, K => match ops[i]? with
    | some o => bif isMake o && o.guard.isNone then stepP E call true ops o st (fun st => headP ops r st K) else False
    | none => False
  | _, _, _ => False
def drawnP (l : List Oper) (st : ASt) (K : ASt → Prop) : Prop :=
  match planOf l with
  | some p => headP E call l p.ord st (fun st => listP E call l (l.drop p.n) st K)
  | none => False
end
inductive Task where
  | code (c : Code)
  | inS (c0 c : Code)
  | inL (c : Code)
def resA (P : Program) (H : List ABlk) (tl : List AV) : List ResultVar → Option (List AV)
  | [] => some []
  | .tmp t :: r => match tl[t]?, resA P H tl r with
    | some v, some vs => some (v :: vs)
    | _, _ => none
  | .cell a t :: r => match (tl[a]?).bind (loadA P H t), resA P H tl r with
    | some v, some vs => some (v :: vs)
    | _, _ => none
def oneA : List AV → AV
  | [v] => v
  | vs => .tuple vs
def callWith (E : Env) (ev : Task → ASt → (AExit → ASt → Prop) → Prop) : CallF := fun f args m K =>
  match E.P.funcs[f]? with
  | some fn => match fn.body with
    | some c => bif fn.name == "runtime.NumGoroutine" then False else
      ev (.code c) ⟨args ++ List.replicate (fn.ntmps - args.length) undefA, m⟩ (fun e st => match e with
        | .normal | .ret => match resA E.P st.m.H st.tl fn.results.toList with
          | some vs => K (oneA vs) st.m
          | none => False
        | _ => False)
    | none => False
  | none => False
def evT (E : Env) : Nat → Task → ASt → (AExit → ASt → Prop) → Prop
  | 0, _, _, _ => False
  | n + 1, .inS c0 c, st, K => evT E n (.code c) st (fun e st => match e with
    | .goto l => match findLabel c0 l with
      | some rest => evT E n (.inS c0 rest) st K
      | none => False
    | e => K e st)
  | n + 1, .inL c, st, K => evT E n (.code c) st (fun e st => match e with
    | .normal => evT E n (.inL c) st K
    | e => K e st)
  | n + 1, .code c, st, K => match c with
    | .skip => K .normal st
    | .region _ ops false => listP E (callWith E (evT E n)) ops.toList ops.toList st (K .normal)
    | .region _ ops true => drawnP E (callWith E (evT E n)) ops.toList st (K .normal)
    | .seq a b => evT E n (.code a) st (fun e st => match e with
      | .normal => evT E n (.code b) st K
      | e => K e st)
    | .cond c a b => match evO st.tl c with
      | some (.bool true z) => bif z then evT E n (.code a) st K else evT E n (.code b) st K
      | some (.bool false z) => match st.m.ds with
        | d :: ds => z = d ∧ (bif d then evT E n (.code a) ⟨st.tl, ⟨st.m.H, ds, st.m.lo⟩⟩ K else evT E n (.code b) ⟨st.tl, ⟨st.m.H, ds, st.m.lo⟩⟩ K)
        | [] => False
      | _ => False
    | .block id c => evT E n (.code c) st (fun e st => match e with
      | .exit j => bif Nat.beq j id then K .normal st else K (.exit j) st
      | e => K e st)
    | .loop c => evT E n (.code c) st (fun e st => match e with
      | .normal => evT E n (.inL c) st K
      | e => K e st)
    | .exit id => K (.exit id) st
    | .goto l => K (.goto l) st
    | .label _ => K .normal st
    | .ret => K .ret st
    | .scope c => evT E n (.inS c c) st K
    | _ => False
/-- A call of a function, from outside. -/
def evCall (E : Env) (n : Nat) : CallF := callWith E (evT E n)
end Go.Proofs.Ytojmifniidddpaa
