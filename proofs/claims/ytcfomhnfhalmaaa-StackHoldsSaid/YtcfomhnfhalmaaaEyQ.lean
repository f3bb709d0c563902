/- Laws by the evaluator: contracts alone; variables said in another way. No condition. -/
import Derived.Test.YtcfomhnfhalmaaaYB
set_option linter.unusedVariables false
set_option linter.unusedSimpArgs false
set_option maxRecDepth 100000
namespace Go.Proofs.Ytcfomhnfhalmaaa
open Go.RowKit

/-- What is known of the program: contracts of these functions. -/
noncomputable def mkEnv (R : Rws) (T : List (Nat × CtrF)) : Env := ⟨Try.prog, eqsK Try.prog, R, lookF T, fun _ => none, fun _ => false, fun _ => false, fun _ => false⟩
theorem mkEnv_ok {R : Rws} {T : List (Nat × CtrF)} (hR : RwOK R) (hT : ∀ p ∈ T, Good Try.prog R p.1 p.2) : EnvOK (mkEnv R T) := ⟨eqsK_ok, hR, fun f F h => lookF_ok hT f F h, fun f F h => (by cases h), rfl⟩
theorem E0_ok : EnvOK (mkEnv noRows []) := mkEnv_ok rwOK_no good_nil
theorem ev_callsI {E : Env} (hE : EnvOK E) (n : Nat) {f : FuncId} {args : List AV} {r : AV} {V : Value} {ds : List Bool} {wr : Nat → Bool} (h : Is (evCall E n f args ⟨[], ds, wr⟩ (fun v _ => v = r))) (hV : r.told? = some V) {Args : List Value} (ha : RelL E.rows [] args Args) (hr : E.rows = noRows) (w : World) :
    Calls E.P f Args.toArray w fun e w' => e = .returned V ∧ Below w.heap.size w w' := ev_calls hE n h.is hV ha hr w
theorem ev_callsR {E : Env} (hE : EnvOK E) (n : Nat) {f : FuncId} {args : List AV} {r : AV} {V : Value} {ds : List Bool} {wr : Nat → Bool} (h : Is (evCall E n f args ⟨[], ds, wr⟩ (fun v _ => v = r))) (hV : r.told? = some V) {Args : List Value} (ha : RelL E.rows [] args Args) (w : World) (hd : Rd E.rows [] w) :
    Calls E.P f Args.toArray w fun e w' => e = .returned V ∧ Below w.heap.size w w' := ev_calls_rd hE n h.is hV ha w hd
/-- A variable's value, said in another way. -/
theorem patSt_val {R : Rws} {D : List Deferred} {live : List (Nat × AV)} {n d : Nat} {m : AM} {a : Act} {Hr : List RBlk} {v v' : AV} (hP : PatSt R D live n m a Hr) (hkeys : live.all (fun p => Nat.blt p.1 n) = true) (hd : d < n) (hl : look d live = some v) (hv : ∀ V, Rel R (nums Hr) v V → Rel R (nums Hr) v' V) : PatSt R D ((d, v') :: live) n m a Hr := by
  obtain ⟨r, vs, rfl, ht, hB, hA⟩ := hP
  have hg := pat_get (r := r) hl hd
  obtain ⟨V, h1, h2⟩ := ht.get hg
  refine patSt_of (live := live) (st := ⟨(pat live r 0 n).set d v', m⟩) ⟨vs, rfl, ht.setSame h1 (hv V h2), hB, hA⟩ (by simp [pat_len]) (fun i u hu => ?_)
  unfold look at hu
  cases hb' : Nat.beq i d <;> simp only [hb', cond_true, cond_false] at hu
  · have hne : i ≠ d := Nat.ne_of_beq_eq_false hb'
    rw [List.getElem?_set_ne (Ne.symm hne)]
    exact pat_get hu (look_lt hkeys hu)
  · rw [Nat.eq_of_beq_eq_true hb']; cases hu
    rw [List.getElem?_set_self (by rw [pat_len]; exact hd)]
theorem patSt_int {R : Rws} {D : List Deferred} {live : List (Nat × AV)} {n d : Nat} {m : AM} {a : Act} {Hr : List RBlk} {k : IntKind} {l l' : Bool} {x : Int} (hP : PatSt R D live n m a Hr) (hkeys : live.all (fun p => Nat.blt p.1 n) = true) (hd : d < n) (hl : look d live = some (.int k l x)) : PatSt R D ((d, .int k l' x) :: live) n m a Hr := patSt_val hP hkeys hd hl (fun V h => by cases h; exact .int)
end Go.Proofs.Ytcfomhnfhalmaaa
