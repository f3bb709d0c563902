/- Refunds as contracts of the evaluator. No condition. -/
import Derived.Test.YtiglfbnicihpmaaStoreT
import Derived.Test.YtiglfbnicihpmaaStoreH
import Derived.Test.YtiglfbnicihpmaaExT
set_option linter.unusedVariables false
set_option linter.unusedSimpArgs false
set_option maxRecDepth 100000
namespace Go.Proofs.Ytiglfbnicihpmaa
open Go.RowKit

theorem eqGauge0 (a b c d a' b' c' d' : Int) (w : World) : (Op.equalIn 10000 37 (.agg #[.int .u64 a, .int .u64 b, .int .u64 c, .int .u64 d]) (.agg #[.int .u64 a', .int .u64 b', .int .u64 c', .int .u64 d'])).run Try.prog w =
    .ok (decide (a = a' ∧ b = b' ∧ c = c' ∧ d = d')) w := by
  rw [show (10000 : Nat) = 9999 + 1 from rfl, run_equalIn_agg w 9999 37 _ _ (by kernel_rfl) (by kernel_rfl)]
  have hu : ∃ fs, Try.prog.underlying 37 = some (.struct fs) ∧ (fs.toList.map fun f => (f.name, f.type, f.offset)) = [("Left", 22, 0), ("Lo", 22, 1), ("Hi", 22, 2), ("Label", 25, 3)] := ⟨_, rfl, by kernel_rfl⟩
  obtain ⟨fs, hu, hf⟩ := hu
  simp only [Program.fieldsOf, hu]
  rcases hm : fs.toList with _ | ⟨f1, _ | ⟨f2, _ | ⟨f3, _ | ⟨f4, _ | ⟨f5, r⟩⟩⟩⟩⟩
  · rw [hm] at hf; simp at hf
  · rw [hm] at hf; simp at hf
  · rw [hm] at hf; simp at hf
  · rw [hm] at hf; simp at hf
  · rw [hm] at hf
    simp only [List.map_cons, List.map_nil, List.cons.injEq, Prod.mk.injEq, and_true] at hf
    obtain ⟨⟨n1, t1, o1⟩, ⟨n2, t2, o2⟩, ⟨n3, t3, o3⟩, n4, t4, o4⟩ := hf
    simp only [Op.eqFields, n1, n2, n3, n4, t1, t2, t3, t4, o1, o2, o3, o4]
    go_simp
    by_cases h1 : a = a' <;> by_cases h2 : b = b' <;> by_cases h3 : c = c' <;> by_cases h4 : d = d' <;> simp [h1, h2, h3, h4]
  · rw [hm] at hf; simp at hf
theorem eqT_gauge : EqT Try.prog 37 [.u64, .u64, .u64, .u64] := by
  intro xs ys hx hy w
  rcases xs with _ | ⟨a, _ | ⟨b, _ | ⟨c, _ | ⟨d, _ | ⟨e, r⟩⟩⟩⟩⟩ <;> simp at hx
  rcases ys with _ | ⟨a', _ | ⟨b', _ | ⟨c', _ | ⟨d', _ | ⟨e', r'⟩⟩⟩⟩⟩ <;> simp at hy
  have := eqGauge0 a b c d a' b' c' d' w
  have e : (a = a' ∧ b = b' ∧ c = c' ∧ d = d') ↔ [a, b, c, d] = [a', b', c', d'] := by simp
  rw [decide_eq_decide.2 e] at this
  exact this
def kA (g : Kn) : List AV := [.int .u64 false g.l, .int .u64 false g.lo, .int .u64 false g.hi, .int .u64 false g.a]
def vA (x : Vl) : List AV := [.int .u64 false x.a, .int .u64 false x.b, .int .u64 false x.c, .int .u64 false x.d, .int .u64 false x.l]
def kV (g : Kn) : List Value := [.int .u64 g.l, .int .u64 g.lo, .int .u64 g.hi, .int .u64 g.a]
theorem vals_kA (g : Kn) : AV.vals? (kA g) = some (kV g) := rfl
theorem vals_vA (x : Vl) : AV.vals? (vA x) = some x.cells := rfl
def asK : AV → Option Kn
  | .agg [.int .u64 _ a, .int .u64 _ b, .int .u64 _ c, .int .u64 _ d] => some ⟨a, b, c, d⟩
  | _ => none
def asV : AV → Option Vl
  | .agg [.int .u64 _ a, .int .u64 _ b, .int .u64 _ c, .int .u64 _ d, .int .u64 _ l] => some ⟨a, b, c, d, l⟩
  | _ => none
theorem asK_rel {R : Rws} {ρ : List Nat} {v : AV} {V : Value} {g : Kn} (h : asK v = some g) (hr : Rel R ρ v V) : V = .agg (kV g).toArray := by
  unfold asK at h
  split at h
  · cases h
    cases hr with | agg hr =>
    cases hr with | cons r0 hr => cases hr with | cons r1 hr => cases hr with | cons r2 hr => cases hr with | cons r3 hr =>
    cases hr; cases r0; cases r1; cases r2; cases r3; rfl
  · cases h
theorem asV_rel {R : Rws} {ρ : List Nat} {v : AV} {V : Value} {x : Vl} (h : asV v = some x) (hr : Rel R ρ v V) : V = .agg x.cells.toArray := by
  unfold asV at h
  split at h
  · cases h
    cases hr with | agg hr =>
    cases hr with | cons r0 hr => cases hr with | cons r1 hr => cases hr with | cons r2 hr => cases hr with | cons r3 hr => cases hr with | cons r4 hr =>
    cases hr; cases r0; cases r1; cases r2; cases r3; cases r4; rfl
  · cases h
/-- What a refund comes to, and its error. -/
def rfK (g : Kn) (x y z : Vl) : Kn := bif refOk g x y z then refK g x y z else ⟨0, 0, 0, 0⟩
def rfE (g : Kn) (x y z : Vl) : Int := bif refOk g x y z then 0 else 2
def rfA (g : Kn) (x y z : Vl) : AV := .tuple [.agg (kA (rfK g x y z)), .int .i64 false (rfE g x y z)]
theorem told_rfA (g : Kn) (x y z : Vl) : (rfA g x y z).told? = some (refV g x y z) := by
  unfold rfA rfK rfE refV
  cases refOk g x y z <;> rfl
def tameB (g : Kn) : Bool := (decide (0 ≤ g.hi) && decide (g.hi ≤ 18446744073709551615)) && (decide (0 ≤ g.lo) && (decide (0 ≤ g.a) && decide (g.a ≤ 18446744073709551615)))
theorem tameB_eq {g : Kn} : tameB g = true ↔ Tame g := by
  unfold tameB Tame U
  simp only [Bool.and_eq_true, decide_eq_true_eq]
def uB (x : Int) : Bool := decide (0 ≤ x) && decide (x ≤ 18446744073709551615)
theorem uB_eq {x : Int} : uB x = true ↔ U x := by unfold uB U; simp only [Bool.and_eq_true, decide_eq_true_eq]
def ctrRf (doc : Bool) : CtrF
  | [g, x, y, z], _ => match asK g, asV x, asV y, asV z with
    | some g, some x, some y, some z => some (rfA g x y z, tameB g :: (bif doc then [uB x.l] else []))
    | _, _, _, _ => none
  | _, _ => none
theorem ctrRf_ok {R : Rws} (doc : Bool) {f : FuncId} (hen : Enters Try.prog f) (h : ∀ g x y z w, Tame g → (doc = true → U x.l) → Calls Try.prog f #[.agg (kV g).toArray, .agg x.cells.toArray, .agg y.cells.toArray, .agg z.cells.toArray] w fun e w' => e = .returned (refV g x y z) ∧ Below w.heap.size w w') : Good Try.prog R f (ctrRf doc) := by
  refine ⟨hen, fun args H v cs hv hcs => ?_⟩
  unfold ctrRf at hv
  split at hv
  · split at hv
    · rename_i g x y z hg hx hy hz
      cases hv
      refine ⟨_, told_rfA _ _ _ _, fun Hr Args ha _ w _ => ?_⟩
      have h1 := tameB_eq.1 (hcs _ (List.mem_cons_self ..))
      have h2 : doc = true → U _ := fun hd => uB_eq.1 (hcs _ (by rw [hd]; exact List.mem_cons_of_mem _ (List.mem_singleton.2 rfl)))
      cases ha with | cons a1 ha => cases ha with | cons a2 ha => cases ha with | cons a3 ha => cases ha with | cons a4 ha =>
      cases ha
      rw [asK_rel hg a1, asV_rel hx a2, asV_rel hy a3, asV_rel hz a4]
      exact h _ _ _ _ w h1 h2
    · cases hv
  · cases hv
noncomputable def tabR : List (Nat × CtrF) := [(12, ctr0 (.bool true true)), (13, ctrRf false), (14, ctrRf true)]
theorem tabR_ok {R : Rws} : ∀ p ∈ tabR, Good Try.prog R p.1 p.2 := by
  have h0 : Good Try.prog R 12 (ctr0 (.bool true true)) := ctr0_ok (enters_of Try.func12 (by kernel_rfl) rfl) rfl (fun w => works_any w)
  have h1 : Good Try.prog R 13 (ctrRf false) := ctrRf_ok false (enters_of Try.func13 (by kernel_rfl) rfl) fun g x y z w hg _ => refund_any g x y z w hg
  have h2 : Good Try.prog R 14 (ctrRf true) := ctrRf_ok true (enters_of Try.func14 (by kernel_rfl) rfl) fun g x y z w hg hU => refRefund_any g x y z w hg (hU rfl)
  exact good_cons (p := (_, _)) h0 (good_cons (p := (_, _)) h1 (good_cons (p := (_, _)) h2 good_nil))
def eqsR : List (Nat × List IntKind) := [(37, [.u64, .u64, .u64, .u64])]
theorem eqsR_ok : ∀ p ∈ eqsR, EqT Try.prog p.1 p.2 := eqs_cons (p := (_, _)) eqT_gauge eqs_nil
noncomputable def ER (R : Rws) : Env := ⟨Try.prog, lookE eqsR, R, lookF tabR, fun _ => none, fun _ => false, fun f => Nat.beq f 15⟩
theorem hER {R : Rws} (hR : RwOK R) : EnvOK (ER R) := ⟨fun t ks h => lookE_ok eqsR_ok t ks h, hR, fun f F h => lookF_ok tabR_ok f F h, fun f F h => (by cases h), rfl⟩
/-- A row of values, and its tail. -/
def rowV (A : Option Addr) (xs : List Vl) (sub : List (Nat × Nat)) : RowI := ⟨A, xs.length, 5, fun i => vA (xs.getD i.toNat ⟨0, 0, 0, 0, 0⟩), fun i => (xs.getD i ⟨0, 0, 0, 0, 0⟩).cells, sub⟩
def rowsV (A : Option Addr) (xs : List Vl) : Rws
  | 0 => some (rowV A xs [(1, 1)])
  | 1 => some (rowV (A.map (·.add 5)) xs.tail [])
  | _ => none
end Go.Proofs.Ytiglfbnicihpmaa
