/- Code on values whose shape is known does what the machine does. No program of its own. No condition. -/
import Derived.Test.YtjbleblllmbcbaaEy8
set_option linter.unusedVariables false
set_option linter.unusedSimpArgs false
namespace Go.Proofs.Ytjbleblllmbcbaa
open Go.RowKit
variable {D : List Deferred} {R : Rws}
theorem RelL.setSame {ρ : Nums} {cs : List AV} {vs : List Value} (h : RelL R ρ cs vs) {i : Nat} {c : AV} {v : Value} (hv : vs[i]? = some v) (hc : Rel R ρ c v) : RelL R ρ (cs.set i c) vs := by
  induction cs generalizing vs i with
  | nil => cases h; exact .nil
  | cons d cs ih =>
    cases h with | cons h hs =>
    cases i with
    | zero => simp at hv; subst hv; exact .cons hc hs
    | succ i => exact .cons h (ih hs (by simpa using hv))
theorem Rel.of_plain {ρ : Nums} {v : AV} {V : Value} (h : v.plain? = some V) : Rel R ρ v V := by
  cases v <;> simp only [AV.plain?] at h
  case agg cs =>
    rw [Option.map_eq_some_iff] at h
    obtain ⟨l, h1, h2⟩ := h
    subst h2; exact .agg (RelL.of_vals h1)
  all_goals exact Rel.of_val h
theorem RelL.of_plains {ρ : Nums} : ∀ {v : List AV} {V : List Value}, AV.plains? v = some V → RelL R ρ v V
  | [], _, h => by simp [AV.plains?] at h; subst h; exact .nil
  | c :: r, V, h => by
    unfold AV.plains? at h
    split at h
    · rename_i e1 e2; cases h; exact .cons (Rel.of_plain e1) (RelL.of_plains e2)
    · cases h
theorem Rel.of_told {ρ : Nums} {v : AV} {V : Value} (h : v.told? = some V) : Rel R ρ v V := by
  cases v <;> simp only [AV.told?] at h
  case tuple cs =>
    rw [Option.map_eq_some_iff] at h
    obtain ⟨l, h1, h2⟩ := h
    subst h2; exact .tuple (RelL.of_plains h1)
  all_goals exact Rel.of_plain h
theorem allT_spec : ∀ {cs : List Bool} {p : Prop}, allT cs p → (∀ c ∈ cs, c = true) ∧ p
  | [], p, h => ⟨by simp, h⟩
  | c :: r, p, h => by
    obtain ⟨h1, h2⟩ := h
    obtain ⟨h3, h4⟩ := allT_spec h2
    exact ⟨fun x hx => by rcases List.mem_cons.1 hx with rfl | hx; exact h1; exact h3 x hx, h4⟩

/-- A row of contracts: what a function answers; it changes nothing. -/
def Good (P : Program) (R : Rws) (f : FuncId) (F : List AV → Mem → Option VC) : Prop := Enters P f ∧ ∀ args H v cs, F args H = some (v, cs) → (∀ c ∈ cs, c = true) → ∃ V, v.told? = some V ∧ ∀ (Hr : List RBlk) (Args : List Value), RelL R (nums Hr) args Args → RelB R (nums Hr) H Hr → Apart H Hr → ∀ w, OwnK R H Hr w → Calls P f Args.toArray w fun e w' => e = .returned V ∧ Below w.heap.size w w'
/-- What is asked of what is known of the program. -/
structure EnvOK (E : Env) : Prop where
  eqs : ∀ t ks, E.eqs t = some ks → EqT E.P t ks
  rows : RwOK E.rows
  ctr : ∀ f F, E.ctr f = some F → Good E.P E.rows f F
  ctm : ∀ f F, E.ctm f = some F → Enters E.P f ∧ ∀ args H wr v H' cs, F args H wr = some (v, H', cs) → (∀ c ∈ cs, c = true) → ∀ Hr w Args, RelL E.rows (nums Hr) args Args → RelB E.rows (nums Hr) H Hr → Apart H Hr → OwnK E.rows H Hr w →
    Calls E.P f Args.toArray w fun e w' => ∃ V Hr', e = .returned V ∧ Rel E.rows (nums Hr') v V ∧ RelB E.rows (nums Hr') H' Hr' ∧ Apart H' Hr' ∧ OwnK E.rows H' Hr' w' ∧ Stp wr Hr w Hr' w'
  mixed : E.P.follows .mixedOrders = true
/-- What is asked of the way calls are carried out. -/
def CallOK (E : Env) (call : CallF) : Prop := ∀ f args m K, call f args m K → ∃ v m', K v m' ∧ m'.wr = m.wr ∧ Enters E.P f ∧ ∀ Hr w Args, RelL E.rows (nums Hr) args Args → RelB E.rows (nums Hr) m.H Hr → Apart m.H Hr → OwnK E.rows m.H Hr w →
  Calls E.P f Args.toArray w fun e w' => ∃ V Hr', e = .returned V ∧ Rel E.rows (nums Hr') v V ∧ RelB E.rows (nums Hr') m'.H Hr' ∧ Apart m'.H Hr' ∧ OwnK E.rows m'.H Hr' w' ∧ Stp m.wr Hr w Hr' w'

section
variable {E : Env} (hE : EnvOK E) {call : CallF} (hC : CallOK E call)
include hE hC
/-- A call: pure, or not. -/
theorem callP_sound {p : Bool} {f : FuncId} {args : List AV} {m : AM} {K : AV → AM → Prop} (h : callP E call p f args m K) :
    ∃ v m', K v m' ∧ m'.wr = m.wr ∧ Enters E.P f ∧ ((m'.H = m.H ∧ ∃ V, v.told? = some V ∧ ∀ Hr w Args, RelL E.rows (nums Hr) args Args → RelB E.rows (nums Hr) m.H Hr → Apart m.H Hr → OwnK E.rows m.H Hr w → Calls E.P f Args.toArray w fun e w' => e = .returned V ∧ Below w.heap.size w w') ∨
      (p = false ∧ ∀ Hr w Args, RelL E.rows (nums Hr) args Args → RelB E.rows (nums Hr) m.H Hr → Apart m.H Hr → OwnK E.rows m.H Hr w →
        Calls E.P f Args.toArray w fun e w' => ∃ V Hr', e = .returned V ∧ Rel E.rows (nums Hr') v V ∧ RelB E.rows (nums Hr') m'.H Hr' ∧ Apart m'.H Hr' ∧ OwnK E.rows m'.H Hr' w' ∧ Stp m.wr Hr w Hr' w')) := by
  unfold callP at h
  split at h
  · rename_i F hF
    obtain ⟨hen, hctr⟩ := hE.ctr f F hF
    split at h
    · rename_i v cs hv
      obtain ⟨hcs, hk⟩ := allT_spec h
      obtain ⟨V, h1, h2⟩ := hctr args m.H v cs hv hcs
      exact ⟨v, m, hk, rfl, hen, .inl ⟨rfl, V, h1, fun Hr w Args ha hB hn hO => h2 Hr Args ha hB hn w hO⟩⟩
    · exact h.elim
  · split at h
    · rename_i F hF
      obtain ⟨hen, hctm⟩ := hE.ctm f F hF
      cases p <;> simp only [cond_true, cond_false] at h
      split at h
      · rename_i v H' cs hv
        obtain ⟨hcs, hk⟩ := allT_spec h
        exact ⟨v, _, hk, rfl, hen, .inr ⟨rfl, fun Hr w Args ha hB hn hO => hctm args m.H m.wr v H' cs hv hcs Hr w Args ha hB hn hO⟩⟩
      · exact h.elim
    · cases hp : (p || E.pure f) <;> simp only [hp, cond_true, cond_false] at h
      · obtain ⟨v, m', h1, h2, h3, h4⟩ := hC f args m K h
        exact ⟨v, m', h1, h2, h3, .inr ⟨(Bool.or_eq_false_iff.1 hp).1, h4⟩⟩
      · obtain ⟨v, m', h1, h2, h3, h4⟩ := hC f args _ _ h
        split at h1
        · rename_i V hV
          refine ⟨v, _, h1, rfl, h3, .inl ⟨rfl, V, hV, fun Hr w Args ha hB hn hO => (h4 Hr w Args ha hB hn hO).mono ?_⟩⟩
          rintro e w' ⟨V', Hr', rfl, hr, _, _, _, hS⟩
          refine ⟨by rw [hr.told hV], hS.os, hS.tape, hS.output, hS.size, fun k hk => hS.block k hk ?_⟩
          intro l q hl _
          have hl1 := (List.getElem?_eq_some_iff.1 hl).1
          have hl2 := hB.len
          simp only [nums, List.length_map] at hl1
          show Nat.ble (m.H.length + 1) l = false
          rw [Bool.eq_false_iff]
          intro hb
          have := Nat.le_of_ble_eq_true hb
          omega
        · exact h1.elim
end

theorem evO_sound {tl : List AV} {vs : List Value} {ρ : Nums} (h : RelL R ρ tl vs) : ∀ x v, evO tl x = some v → Rel R ρ v ((⟨vs.toArray, D⟩ : Act).eval x) := by
  intro x v hx
  cases x <;> simp only [evO] at hx
  case tmp t =>
    obtain ⟨V, h1, h2⟩ := h.get hx
    simp [Act.eval, h1, h2]
  case const c => cases hx; exact Rel.ofValue _
  case func f => cases hx; exact .func .nil
  case global g => cases hx
theorem putA_rel {ρ : Nums} {tl : List AV} {vs : List Value} (h : RelL R ρ tl vs) (d : Option Tmp) {v : AV} {V : Value} (hv : Rel R ρ v V) :
    ∃ vs', (⟨vs.toArray, D⟩ : Act).put d V = ⟨vs'.toArray, D⟩ ∧ RelL R ρ (putA tl d v) vs' := by
  cases d with
  | none => exact ⟨vs, rfl, h⟩
  | some d => exact ⟨vs.set d V, by simp [Act.put], h.set hv⟩

/-- Something new is made: this object. -/
def atO (P : Program) (o : Oper) (a : Act) (w : World) (mk : Nat → Value) (ob : Obj) : Prop := atR P o a w fun v w' => v = mk w.heap.size ∧ w' = w.alloc ob
/-- What an operation has done: it has yielded a value; made a block; or else changed what lies there. -/
def Did (P : Program) (R : Rws) (p : Bool) (o : Oper) (st st' : ASt) : Prop :=
  (∃ v ds, st' = ⟨putA st.tl o.dst v, ⟨st.m.H, ds, st.m.wr⟩⟩ ∧ ∀ {D : List Deferred} a Hr, RelSt R D st a Hr → ∃ V, Rel R (nums Hr) v V ∧ ∀ w, OwnK R st.m.H Hr w → at1 P o a w V) ∨
  (isMake o = true ∧ ∃ (v : AV) (it : AIt) (mk : Nat → Value), st' = ⟨putA st.tl o.dst v, ⟨st.m.H ++ [it], st.m.ds, st.m.wr⟩⟩ ∧ ∀ {D : List Deferred} a Hr, RelSt R D st a Hr → ∃ ob : Obj, (∀ b, RelI R (nums Hr) it ⟨b, 0, ob⟩) ∧ (∀ q, Rel R (nums Hr ++ [q]) v (mk q.b)) ∧ ∀ w, OwnK R st.m.H Hr w → atO P o a w mk ob) ∨
  (p = false ∧ ∃ v m', st' = ⟨putA st.tl o.dst v, m'⟩ ∧ m'.wr = st.m.wr ∧ ∀ {D : List Deferred} a Hr w, RelSt R D st a Hr → OwnK R st.m.H Hr w → atR P o a w fun u w' => ∃ Hr', Rel R (nums Hr') v u ∧ RelB R (nums Hr') m'.H Hr' ∧ Apart m'.H Hr' ∧ OwnK R m'.H Hr' w' ∧ Stp st.m.wr Hr w Hr' w')
theorem num_lt {Hr : List RBlk} {l : Nat} {q : Num} (h : (nums Hr)[l]? = some q) : l < Hr.length := by
  have := (List.getElem?_eq_some_iff.1 h).1
  simpa [nums] using this
/-- A write through label l. -/
theorem stp_write {wr : Nat → Bool} {Hr Hr' : List RBlk} {w w' : World} {l : Nat} {p : RBlk} (hp : Hr[l]? = some p) (hw : wr l = true) (hg : w.grownBy w' (some p.b)) (hN : nums Hr' = nums Hr ++ (nums Hr').drop Hr.length) (hnew : ∀ q ∈ (nums Hr').drop Hr.length, w.heap.size ≤ q.b ∨ q.b = p.b) : Stp wr Hr w Hr' w' := by
  refine ⟨hg.os, hg.tape, hg.output, hg.size, ⟨_, hN, fun q hq => (hnew q hq).imp id fun h => ⟨l, p.num, nums_get hp, h.symm, hw⟩⟩, fun k hk hn => hg.block k hk fun e => ?_⟩
  have := hn l p.num (nums_get hp) (Option.some.inj e).symm
  rw [hw] at this; cases this
theorem same_grown {b : Nat} {w w' : World} (h : Same b w w') : w.grownBy w' (some b) := ⟨h.os, h.tape, h.output, by rw [h.size]; exact Nat.le_refl _, fun k _ hk => h.block k fun e => hk (by rw [e])⟩
def makes : Res → Bool
  | .newM _ => true
  | .new _ _ => true
  | .newS _ _ _ _ => true
  | _ => false
theorem storeA_make {P : Program} {H : Mem} {t : TypeId} {x y : AV} {r : Res} (h : storeA P H t x y = some r) : makes r = false := by
  unfold storeA at h
  repeat' split at h
  all_goals first
    | (cases h; done)
    | (cases h; rfl)
theorem appendA_make {P : Program} {H : Mem} {t : TypeId} {x y : AV} {r : Res} (h : appendA P R H t x y = some r) : makes r = false := by
  unfold appendA at h
  split at h
  · split at h
    · split at h
      · rename_i i _ _ z _
        cases hb : (Nat.blt 0 i.size && Nat.beq z.cells.size i.size && Nat.ble i.bytes 1000) <;> simp only [hb, cond_true, cond_false] at h
        · cases h
        repeat' split at h
        all_goals first
          | (cases h; done)
          | (cases h; rfl)
      · cases h
    · cases h
  · cases h
theorem builtinA_make {P : Program} {H : Mem} {f : Operand → Option AV} {c : Call} {r : Res} (h : builtinA P R H f c = some r) : makes r = false := by
  unfold builtinA at h
  repeat' split at h
  all_goals first
    | (cases h; done)
    | (rw [Option.map_eq_some_iff] at h; obtain ⟨v, _, rfl⟩ := h; rfl)
    | (exact appendA_make h)
    | (cases h; rfl)
theorem updateA_make {P : Program} {eqs : TypeId → Option (List IntKind)} {H : Mem} {t : TypeId} {x k v : AV} {r : Res} (h : updateA P eqs H t x k v = some r) : makes r = false := by
  unfold updateA at h
  split at h
  · split at h
    · rename_i m hu hl
      split at h
      · rename_i ks gg cs zv vc hT hvc
        cases hb : (eqKs ks m.ks && gg == m.g && eqCs cs m.cs && isAggA v == m.g && fitL m.cs vc) <;> simp only [hb, cond_true, cond_false] at h
        · cases h
        split at h
        · cases h; rfl
        · cases h
      · cases h
    · cases h
  · cases h
theorem opA_make {P : Program} {R : Rws} {eqs : TypeId → Option (List IntKind)} {H : Mem} {f : Operand → Option AV} {o : Oper} {r : Res} (h : opA P R eqs H f o.op = some r) (hm : makes r = true) : isMake o = true := by
  obtain ⟨dst, op, ty, pos, aft, gd⟩ := o
  cases op <;> simp only [opA] at h
  all_goals first
    | rfl
    | (cases h; done)
    | (rw [Option.map_eq_some_iff] at h; obtain ⟨v, _, rfl⟩ := h; cases hm; done)
    | (rw [builtinA_make h] at hm; cases hm; done)
    | (exfalso; repeat' split at h) <;> first | (cases h; done) | (cases h; cases hm; done) | (rw [Option.map_eq_some_iff] at h; obtain ⟨v, _, rfl⟩ := h; cases hm; done) | (rw [storeA_make h] at hm; cases hm; done) | (rw [updateA_make h] at hm; cases hm; done)
theorem at1_call {P : Program} {o : Oper} {a : Act} {w : World} {f : FuncId} {args : Array Value} {V : Value} (hr : (execOp a.eval o).run P w = .ok (.enter f args) w) (hc : Calls P f args w fun e w' => e = .returned V ∧ Below w.heap.size w w') : at1 P o a w V := by
  unfold at1 atR Oper.wp
  rw [hr]
  simp only [Oper.upon]
  exact hc.mono fun e w' ⟨he, hb⟩ => by subst he; exact ⟨V, rfl, rfl, hb⟩
theorem run_call {P : Program} {f : FuncId} (hen : Enters P f) {g : Operand} {xs : Array Operand} {ts : Array TypeId} {a : Act} {caps : List Value} (hg : a.eval g = .func (.func f) #[] caps.toArray) {dst ty pos aft gd} (w : World) :
    (execOp a.eval ⟨dst, .call ⟨.value g, xs, ts⟩, ty, pos, aft, gd⟩).run P w = .ok (.enter f (xs.map a.eval ++ caps.toArray)) w := by
  simp only [execOp, resolve, hg, Deferred.ofValue, Sem.run_bind, Sem.run_pure, Result.andThen_ok, invoke]
  simpa using hen _ w

end Go.Proofs.Ytjbleblllmbcbaa
