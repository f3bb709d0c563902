/- Code on values whose shape is known does what the machine does. No program of its own. No condition. -/
import Derived.Test.YtojmifniidddpaaEv7
import Derived.Shelf.Abstract
set_option linter.unusedVariables false
set_option linter.unusedSimpArgs false
namespace Go.Proofs.Ytojmifniidddpaa
open Go.RowKit

def RelSt (st : ASt) (a : Act) (Hr : List Block) : Prop := ∃ vs : List Value, a = ⟨vs.toArray, []⟩ ∧ RelL (nums Hr) st.tl vs ∧ RelB (nums Hr) st.m.H Hr ∧ (nums Hr).Nodup
structure Stp (lo : Nat) (Hr : List Block) (w : World) (Hr' : List Block) (w' : World) : Prop where
  os : w'.os = w.os
  tape : w'.tape = w.tape
  output : w'.output = w.output
  size : w.heap.size ≤ w'.heap.size
  ext : ∃ σ, nums Hr' = nums Hr ++ σ ∧ ∀ b ∈ σ, w.heap.size ≤ b
  block : ∀ k, k < w.heap.size → k ∉ (nums Hr).drop lo → w'.heap[k]? = w.heap[k]?
theorem Stp.of_below {lo : Nat} {Hr : List Block} {w w' : World} (h : Below w.heap.size w w') : Stp lo Hr w Hr w' :=
  ⟨h.os, h.tape, h.output, h.size, ⟨[], by simp, by simp⟩, fun k hk _ => h.block k hk⟩
theorem Stp.refl (lo : Nat) (Hr : List Block) (w : World) : Stp lo Hr w Hr w := .of_below (Below.refl _ _)
theorem Stp.trans {lo : Nat} {A B C : List Block} {u v w : World} (h : Stp lo A u B v) (k : Stp lo B v C w) : Stp lo A u C w := by
  obtain ⟨σ, e1, n1⟩ := h.ext
  obtain ⟨τ, e2, n2⟩ := k.ext
  refine ⟨k.os.trans h.os, k.tape.trans h.tape, k.output.trans h.output, Nat.le_trans h.size k.size, ⟨σ ++ τ, by rw [e2, e1, List.append_assoc], fun b hb => ?_⟩, fun i hi hn => ?_⟩
  · rcases List.mem_append.1 hb with hb | hb
    · exact n1 b hb
    · exact Nat.le_trans h.size (n2 b hb)
  · rw [k.block i (Nat.lt_of_lt_of_le hi h.size), h.block i hi hn]
    intro hm
    rw [e1, List.drop_append] at hm
    rcases List.mem_append.1 hm with hm | hm
    · exact hn hm
    · have := n1 i (List.mem_of_mem_drop hm); omega
theorem Stp.drew {lo : Nat} {A : List Block} {w : World} : Stp lo A w A w.drew := .of_below ((Below.refl _ _).drew)
theorem Stp.alloc {lo : Nat} {Hr : List Block} {w : World} (c : Array Value) (t : TypeId) : Stp lo Hr w (Hr ++ [(w.heap.size, c, t)]) (w.alloc (.cells c t)) := by
  have h := World.below_alloc w (.cells c t)
  exact ⟨h.os, h.tape, h.output, h.size, ⟨[w.heap.size], nums_snoc _ _ _ _, by simp⟩, fun k hk _ => h.block k hk⟩
theorem Own.snoc {Hr : List Block} {w w' : World} (h : Own Hr w) (hb : Below w.heap.size w w') {b : Nat} {c : Array Value} {t : TypeId} (hB : Blk w' b c t) : Own (Hr ++ [(b, c, t)]) w' := fun p hp => by
  rcases List.mem_append.1 hp with hp | hp
  · exact (h p hp).grow hb
  · simp at hp; subst hp; exact hB
theorem nums_fresh {Hr : List Block} {w : World} (h : Own Hr w) (hn : (nums Hr).Nodup) : (nums Hr ++ [w.heap.size]).Nodup := by
  rw [List.nodup_append]
  refine ⟨hn, by simp, fun x hx y hy => ?_⟩
  simp at hy
  subst hy
  simp only [nums, List.mem_map] at hx
  obtain ⟨p, hp, rfl⟩ := hx
  have := (h p hp).lt
  omega

mutual
theorem Rel.of_val {ρ : List Nat} {v : AV} {V : Value} (h : v.val? = some V) : Rel ρ v V := by
  cases v <;> simp only [AV.val?] at h <;> try cases h
  · exact .bool
  · exact .int
  · split at h
    · cases h
    · cases h; rename_i hs; exact .bv (by simpa using hs)
  · exact .raw
end
theorem RelL.of_vals {ρ : List Nat} : ∀ {v : List AV} {V : List Value}, AV.vals? v = some V → RelL ρ v V
  | [], _, h => by simp [AV.vals?] at h; subst h; exact .nil
  | c :: r, V, h => by
    unfold AV.vals? at h
    split at h
    · rename_i e1 e2; cases h; exact .cons (Rel.of_val e1) (RelL.of_vals e2)
    · cases h
theorem Rel.of_plain {ρ : List Nat} {v : AV} {V : Value} (h : v.plain? = some V) : Rel ρ v V := by
  cases v <;> simp only [AV.plain?] at h
  case agg cs =>
    rw [Option.map_eq_some_iff] at h
    obtain ⟨l, h1, h2⟩ := h
    subst h2; exact .agg (RelL.of_vals h1)
  all_goals exact Rel.of_val h
theorem RelL.of_plains {ρ : List Nat} : ∀ {v : List AV} {V : List Value}, AV.plains? v = some V → RelL ρ v V
  | [], _, h => by simp [AV.plains?] at h; subst h; exact .nil
  | c :: r, V, h => by
    unfold AV.plains? at h
    split at h
    · rename_i e1 e2; cases h; exact .cons (Rel.of_plain e1) (RelL.of_plains e2)
    · cases h
theorem Rel.of_told {ρ : List Nat} {v : AV} {V : Value} (h : v.told? = some V) : Rel ρ v V := by
  cases v <;> simp only [AV.told?] at h
  case tuple cs =>
    rw [Option.map_eq_some_iff] at h
    obtain ⟨l, h1, h2⟩ := h
    subst h2; exact .tuple (RelL.of_plains h1)
  all_goals exact Rel.of_plain h
theorem allT_spec : ∀ {cs : List Bool} {p : Prop}, allT cs p → (∀ c ∈ cs, c = true) ∧ p
  | [], p, h => ⟨by simp, h⟩
  | c :: r, p, h => by
    obtain ⟨h1, h2⟩ := h
    obtain ⟨h3, h4⟩ := allT_spec h2
    exact ⟨fun x hx => by rcases List.mem_cons.1 hx with rfl | hx; exact h1; exact h3 x hx, h4⟩

/-- What is asked of what is known of the program. -/
structure EnvOK (E : Env) : Prop where
  eqs : ∀ t ks, E.eqs t = some ks → EqT E.P t ks
  ctr : ∀ f F, E.ctr f = some F → Enters E.P f ∧ ∀ args v cs, F args = some (v, cs) → (∀ c ∈ cs, c = true) → ∃ V, v.told? = some V ∧ ∀ (ρ : List Nat) (Args : List Value), RelL ρ args Args → ∀ w, Calls E.P f Args.toArray w fun e w' => e = .returned V ∧ Below w.heap.size w w'
  mixed : E.P.follows .mixedOrders = true
/-- What is asked of the way calls are carried out. -/
def CallOK (E : Env) (call : CallF) : Prop := ∀ f args m K, call f args m K → ∃ v m', K v m' ∧ m'.lo = m.lo ∧ Enters E.P f ∧ ∀ Hr w Args, RelL (nums Hr) args Args → RelB (nums Hr) m.H Hr → (nums Hr).Nodup → Own Hr w →
  Calls E.P f Args.toArray w fun e w' => ∃ V Hr', e = .returned V ∧ Rel (nums Hr') v V ∧ RelB (nums Hr') m'.H Hr' ∧ (nums Hr').Nodup ∧ Own Hr' w' ∧ Stp m.lo Hr w Hr' w'

section
variable {E : Env} (hE : EnvOK E) {call : CallF} (hC : CallOK E call)
include hE hC
/-- A call: pure, or not. -/
theorem callP_sound {p : Bool} {f : FuncId} {args : List AV} {m : AM} {K : AV → AM → Prop} (h : callP E call p f args m K) :
    ∃ v m', K v m' ∧ m'.lo = m.lo ∧ Enters E.P f ∧ ((m'.H = m.H ∧ ∃ V, v.told? = some V ∧ ∀ Hr w Args, RelL (nums Hr) args Args → RelB (nums Hr) m.H Hr → (nums Hr).Nodup → Own Hr w → Calls E.P f Args.toArray w fun e w' => e = .returned V ∧ Below w.heap.size w w') ∨
      (p = false ∧ ∀ Hr w Args, RelL (nums Hr) args Args → RelB (nums Hr) m.H Hr → (nums Hr).Nodup → Own Hr w →
        Calls E.P f Args.toArray w fun e w' => ∃ V Hr', e = .returned V ∧ Rel (nums Hr') v V ∧ RelB (nums Hr') m'.H Hr' ∧ (nums Hr').Nodup ∧ Own Hr' w' ∧ Stp m.lo Hr w Hr' w')) := by
  unfold callP at h
  split at h
  · rename_i F hF
    obtain ⟨hen, hctr⟩ := hE.ctr f F hF
    split at h
    · rename_i v cs hv
      obtain ⟨hcs, hk⟩ := allT_spec h
      obtain ⟨V, h1, h2⟩ := hctr args v cs hv hcs
      exact ⟨v, m, hk, rfl, hen, .inl ⟨rfl, V, h1, fun Hr w Args ha _ _ _ => h2 _ Args ha w⟩⟩
    · exact h.elim
  · cases hp : (p || E.pure f) <;> simp only [hp, cond_true, cond_false] at h
    · obtain ⟨v, m', h1, h2, h3, h4⟩ := hC f args m K h
      exact ⟨v, m', h1, h2, h3, .inr ⟨(Bool.or_eq_false_iff.1 hp).1, h4⟩⟩
    · obtain ⟨v, m', h1, h2, h3, h4⟩ := hC f args _ _ h
      split at h1
      · rename_i V hV
        refine ⟨v, _, h1, rfl, h3, .inl ⟨rfl, V, hV, fun Hr w Args ha hB hn hO => (h4 Hr w Args ha hB hn hO).mono ?_⟩⟩
        rintro e w' ⟨V', Hr', rfl, hr, _, _, _, hS⟩
        refine ⟨by rw [hr.told hV], hS.os, hS.tape, hS.output, hS.size, fun k hk => hS.block k hk ?_⟩
        have hl := hB.len
        rw [List.drop_eq_nil_of_le (by simp [nums, hl])]
        simp
      · exact h1.elim
end

theorem evO_sound {tl : List AV} {vs : List Value} {ρ : List Nat} (h : RelL ρ tl vs) : ∀ x v, evO tl x = some v → Rel ρ v ((⟨vs.toArray, []⟩ : Act).eval x) := by
  intro x v hx
  cases x <;> simp only [evO] at hx
  case tmp t =>
    obtain ⟨V, h1, h2⟩ := h.get hx
    simp [Act.eval, h1, h2]
  case const c => cases hx; exact Rel.ofValue _
  case func f => cases hx; exact .func .nil
  case global g => cases hx
theorem putA_rel {ρ : List Nat} {tl : List AV} {vs : List Value} (h : RelL ρ tl vs) (d : Option Tmp) {v : AV} {V : Value} (hv : Rel ρ v V) :
    ∃ vs', (⟨vs.toArray, []⟩ : Act).put d V = ⟨vs'.toArray, []⟩ ∧ RelL ρ (putA tl d v) vs' := by
  cases d with
  | none => exact ⟨vs, rfl, h⟩
  | some d => exact ⟨vs.set d V, by simp [Act.put], h.set hv⟩

/-- What an operation has done: it has yielded a value; made a block; written one; or a call has been carried out. -/
def Did (P : Program) (p : Bool) (o : Oper) (st st' : ASt) : Prop :=
  (∃ v ds, st' = ⟨putA st.tl o.dst v, ⟨st.m.H, ds, st.m.lo⟩⟩ ∧ ∀ a Hr, RelSt st a Hr → ∃ V, Rel (nums Hr) v V ∧ ∀ w, Own Hr w → at1 P o a w V) ∨
  (isMake o = true ∧ ∃ (v : AV) (cs : List AV) (t : TypeId) (mk : Nat → Value), st' = ⟨putA st.tl o.dst v, ⟨st.m.H ++ [(cs, t)], st.m.ds, st.m.lo⟩⟩ ∧ ∀ a Hr, RelSt st a Hr → ∃ Cs : List Value, RelL (nums Hr) cs Cs ∧ (∀ b, Rel (nums Hr ++ [b]) v (mk b)) ∧ ∀ w, Own Hr w → atA P o a w mk Cs.toArray t) ∨
  (p = false ∧ ∃ (l : Nat) (cs : List AV) (t : TypeId), st' = ⟨putA st.tl o.dst undefA, ⟨st.m.H.set l (cs, t), st.m.ds, st.m.lo⟩⟩ ∧ st.m.lo ≤ l ∧ (∃ cs0, st.m.H[l]? = some (cs0, t)) ∧ ∀ a Hr, RelSt st a Hr → ∃ b Cs0 Cs ty, Hr[l]? = some (b, Cs0, ty) ∧ RelL (nums Hr) cs Cs ∧
    ∀ w, Own Hr w → ∃ w', (execOp a.eval o).run P w = .ok .skip w' ∧ Same b w w' ∧ Blk w' b Cs.toArray ty) ∨
  (p = false ∧ ∃ v m', st' = ⟨putA st.tl o.dst v, m'⟩ ∧ m'.lo = st.m.lo ∧ ∀ a Hr w, RelSt st a Hr → Own Hr w → ∃ f args, (execOp a.eval o).run P w = .ok (.enter f args) w ∧
    Calls P f args w fun e w' => ∃ V Hr', e = .returned V ∧ Rel (nums Hr') v V ∧ RelB (nums Hr') m'.H Hr' ∧ (nums Hr').Nodup ∧ Own Hr' w' ∧ Stp st.m.lo Hr w Hr' w')

def makes : Res → Bool
  | .new _ _ => true
  | .newS _ _ _ _ => true
  | _ => false
theorem storeA_make {P : Program} {H : List ABlk} {t : TypeId} {x y : AV} {r : Res} (h : storeA P H t x y = some r) : makes r = false := by
  unfold storeA at h
  split at h
  · split at h
    · split at h
      · cases h; rfl
      · cases h
    · cases h
  · cases h
theorem builtinA_make {P : Program} {f : Operand → Option AV} {c : Call} {r : Res} (h : builtinA P f c = some r) : makes r = false := by
  unfold builtinA at h
  split at h
  · split at h
    · rw [Option.map_eq_some_iff] at h; obtain ⟨v, _, rfl⟩ := h; rfl
    · cases h
  · cases h
theorem opA_make {P : Program} {eqs : TypeId → Option (List IntKind)} {H : List ABlk} {f : Operand → Option AV} {o : Oper} {r : Res} (h : opA P eqs H f o.op = some r) (hm : makes r = true) : isMake o = true := by
  obtain ⟨dst, op, ty, pos, aft, gd⟩ := o
  cases op <;> simp only [opA] at h
  all_goals first
    | rfl
    | (cases h; done)
    | (rw [Option.map_eq_some_iff] at h; obtain ⟨v, _, rfl⟩ := h; cases hm; done)
    | (rw [builtinA_make h] at hm; cases hm; done)
    | (exfalso; repeat' split at h) <;> first | (cases h; done) | (cases h; cases hm; done) | (rw [Option.map_eq_some_iff] at h; obtain ⟨v, _, rfl⟩ := h; cases hm; done) | (rw [storeA_make h] at hm; cases hm; done)
theorem at1_call {P : Program} {o : Oper} {a : Act} {w : World} {f : FuncId} {args : Array Value} {V : Value} (hr : (execOp a.eval o).run P w = .ok (.enter f args) w) (hc : Calls P f args w fun e w' => e = .returned V ∧ Below w.heap.size w w') : at1 P o a w V := by
  unfold at1 atR Oper.wp
  rw [hr]
  simp only [Oper.upon]
  exact hc.mono fun e w' ⟨he, hb⟩ => by subst he; exact ⟨V, rfl, rfl, hb⟩
theorem run_call {P : Program} {f : FuncId} (hen : Enters P f) {g : Operand} {xs : Array Operand} {ts : Array TypeId} {a : Act} {caps : List Value} (hg : a.eval g = .func (.func f) #[] caps.toArray) {dst ty pos aft gd} (w : World) :
    (execOp a.eval ⟨dst, .call ⟨.value g, xs, ts⟩, ty, pos, aft, gd⟩).run P w = .ok (.enter f (xs.map a.eval ++ caps.toArray)) w := by
  simp only [execOp, resolve, hg, Deferred.ofValue, Sem.run_bind, Sem.run_pure, Result.andThen_ok, invoke]
  simpa using hen _ w

section
variable {E : Env} (hE : EnvOK E) {call : CallF} (hC : CallOK E call)
include hE hC
theorem doP_sound {p : Bool} {o : Oper} {st : ASt} {K : ASt → Prop} (h : doP E call p o st K) : ∃ st', K st' ∧ Did E.P p o st st' := by
  unfold doP at h
  split at h
  · rename_i g xs ts hop
    split at h
    · rename_i f cap vs hg hvs
      obtain ⟨v, m', h1, h2, hen, h3⟩ := callP_sound hE hC h
      refine ⟨_, h1, ?_⟩
      have hrun : ∀ a Hr, RelSt st a Hr → ∃ Args, RelL (nums Hr) (vs ++ cap) Args ∧ ∀ w, (execOp a.eval o).run E.P w = .ok (.enter f Args.toArray) w := by
        rintro a Hr ⟨tv, rfl, ht, hB, hn⟩
        have e1 := evO_sound ht _ _ hg
        rcases hge : (⟨tv.toArray, []⟩ : Act).eval g with _ | _ | _ | _ | _ | _ | _ | _ | _ | ⟨fn, fi, ca⟩ | _ | _ | _ | _ | _ <;> rw [hge] at e1 <;> cases e1
        rename_i caps hcaps
        have e2 := evs_sound (evO_sound ht) hvs
        refine ⟨_, e2.append hcaps, fun w => ?_⟩
        obtain ⟨dst, op, ty, pos, aft, gd⟩ := o
        subst hop
        rw [run_call hen hge w]
        congr 2
        apply Array.toList_inj.1
        simp
      rcases h3 with ⟨hm, V, hV, hc⟩ | ⟨hp, hc⟩
      · refine .inl ⟨v, m'.ds, ?_, fun a Hr hR => ?_⟩
        · obtain ⟨H', ds', lo'⟩ := m'; simp only at hm h2; subst hm; subst h2; rfl
        · obtain ⟨Args, ha, hr⟩ := hrun a Hr hR
          obtain ⟨tv, _, ht, hB, hn⟩ := hR
          exact ⟨V, Rel.of_told hV, fun w hO => at1_call (hr w) (hc Hr w Args ha hB hn hO)⟩
      · refine .inr (.inr (.inr ⟨hp, v, m', rfl, h2, fun a Hr w hR hO => ?_⟩))
        obtain ⟨Args, ha, hr⟩ := hrun a Hr hR
        obtain ⟨tv, _, ht, hB, hn⟩ := hR
        exact ⟨f, _, hr w, hc Hr w Args ha hB hn hO⟩
    · exact h.elim
  · split at h
    · rename_i op hne v cs hop
      obtain ⟨hcs, hk⟩ := allT_spec h
      refine ⟨_, hk, .inl ⟨v, st.m.ds, rfl, fun a Hr hR => ?_⟩⟩
      obtain ⟨tv, rfl, ht, hB, hn⟩ := hR
      obtain ⟨V, h1, h2⟩ := opA_sound hE.eqs hB (evO_sound ht) hop hcs
      exact ⟨V, h1, fun w hO => at1_run (h2 w hO)⟩
    · rename_i op hne cs t hop
      refine ⟨_, h, .inr (.inl ⟨opA_make hop rfl, _, cs, t, fun b => .pointer (some ⟨b, 0, none⟩), rfl, fun a Hr hR => ?_⟩)⟩
      obtain ⟨tv, rfl, ht, hB, hn⟩ := hR
      obtain ⟨Cs, h1, h2⟩ := opA_sound hE.eqs hB (evO_sound ht) hop (by simp [Res.cs])
      refine ⟨Cs, h1, fun b => .ptr ?_, fun w hO => ?_⟩
      · rw [← hB.len]; simp [nums]
      · unfold atA atR Oper.wp
        rw [h2 w hO]
        exact ⟨_, rfl, rfl, rfl⟩
    · rename_i op hne cs t n c hop
      refine ⟨_, h, .inr (.inl ⟨opA_make hop rfl, _, cs, t, fun b => .slice (some ⟨b, 0, none⟩) n c, rfl, fun a Hr hR => ?_⟩)⟩
      obtain ⟨tv, rfl, ht, hB, hn⟩ := hR
      obtain ⟨Cs, h1, h2⟩ := opA_sound hE.eqs hB (evO_sound ht) hop (by simp [Res.cs])
      refine ⟨Cs, h1, fun b => .slice ?_, fun w hO => ?_⟩
      · rw [← hB.len]; simp [nums]
      · unfold atA atR Oper.wp
        rw [h2 w hO]
        exact ⟨_, rfl, rfl, rfl⟩
    · rename_i op hne l cs hop
      split at h
      · rename_i cs0 t hl
        cases hb : (Nat.ble st.m.lo l && !p) <;> simp only [hb, cond_true, cond_false] at h
        rw [Bool.and_eq_true] at hb
        refine ⟨_, h, .inr (.inr (.inl ⟨by simpa using hb.2, l, cs, t, rfl, Nat.le_of_ble_eq_true hb.1, ⟨cs0, hl⟩, fun a Hr hR => ?_⟩))⟩
        obtain ⟨tv, rfl, ht, hB, hn⟩ := hR
        obtain ⟨b, Cs0, Cs, ty, h1, h2, _, h3⟩ := opA_sound hE.eqs hB (evO_sound ht) hop (by simp [Res.cs])
        exact ⟨b, Cs0, Cs, ty, h1, h2, h3⟩
      · exact h.elim
    · exact h.elim
end
end Go.Proofs.Ytojmifniidddpaa
