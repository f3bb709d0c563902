/- Costs of changes as contracts of the evaluator; rows of words. No condition. -/
import Derived.Test.YtiglfbnicihpmaaStoreJ
import Derived.Test.YtiglfbnicihpmaaYB
set_option linter.unusedVariables false
set_option linter.unusedSimpArgs false
set_option maxRecDepth 100000
namespace Go.Proofs.Ytiglfbnicihpmaa
open Go.RowKit

def v0 : Vl := ⟨0, 0, 0, 0, 0⟩
def wdA (x : Vl) : List AV := [.int .u64 false x.a, .int .u64 false x.b, .int .u64 false x.c, .int .u64 false x.d]
def wdC (x : Vl) : List Value := [.int .u64 x.a, .int .u64 x.b, .int .u64 x.c, .int .u64 x.d]
def vlA (x : Vl) : List AV := [.int .u64 false x.a, .int .u64 false x.b, .int .u64 false x.c, .int .u64 false x.d, .int .u64 false x.l]
/-- A value without a label. -/
def vzA (x : Vl) : List AV := [.int .u64 false x.a, .int .u64 false x.b, .int .u64 false x.c, .int .u64 false x.d, .int .u64 true 0]
def vz (x : Vl) : Vl := ⟨x.a, x.b, x.c, x.d, 0⟩
def kgA (g : Kn) : List AV := [.int .u64 false g.l, .int .u64 false g.lo, .int .u64 false g.hi, .int .u64 false g.a]
/-- A cost: exact; bounds. -/
def kc (n n' lo hi a : Int) : List AV := [.int .u64 false n, .int .u64 false (bdI n' lo a), .int .u64 false (bdI n' hi a), .int .u64 false a]
def asV : AV → Option Vl
  | .agg [.int .u64 _ a, .int .u64 _ b, .int .u64 _ c, .int .u64 _ d, .int .u64 _ l] => some ⟨a, b, c, d, l⟩
  | _ => none
theorem asV_rel {R : Rws} {ρ : Nums} {v : AV} {V : Value} {x : Vl} (h : asV v = some x) (hr : Rel R ρ v V) : V = .agg x.cells.toArray := by
  unfold asV at h
  split at h
  · cases h
    cases hr with | agg hr =>
    cases hr with | cons r0 hr => cases hr with | cons r1 hr => cases hr with | cons r2 hr => cases hr with | cons r3 hr => cases hr with | cons r4 hr =>
    cases hr; cases r0; cases r1; cases r2; cases r3; cases r4; rfl
  · cases h
def chA (x y z : Vl) : AV := .tuple [.agg (kc (exC x y z + 2100) (exC x y z + 2100) 2200 22100 (lab3 x y z)), .agg (kc (exM x y z) (exM x y z) 0 19900 (lab3 x y z)), .agg (kc (exL x y z) (exL x y z) 0 4800 (lab3 x y z))]
def chV (x y z : Vl) : Value := .tuple #[costV (exC x y z + extraI true) (100 + extraI true) (20000 + extraI true) (lab3 x y z), costV (exM x y z) 0 19900 (lab3 x y z), costV (exL x y z) 0 4800 (lab3 x y z)]
theorem told_chA (x y z : Vl) : (chA x y z).told? = some (chV x y z) := rfl
def ctrCh : CtrF
  | [.bool _ true, x, y, z], _ => match asV x, asV y, asV z with
    | some x, some y, some z => some (chA x y z, [])
    | _, _, _ => none
  | _, _ => none
theorem ctrCh_ok {R : Rws} : Good Try.prog R 6 ctrCh := by
  refine ⟨enters_of Try.func6 (by kernel_rfl) rfl, fun args H v cs hv hcs => ?_⟩
  unfold ctrCh at hv
  split at hv
  · split at hv
    · rename_i x y z hx hy hz
      cases hv
      refine ⟨_, told_chA _ _ _, fun Hr Args ha _ _ w _ => ?_⟩
      cases ha with | cons a1 ha => cases ha with | cons a2 ha => cases ha with | cons a3 ha => cases ha with | cons a4 ha =>
      cases ha
      cases a1
      rw [asV_rel hx a2, asV_rel hy a3, asV_rel hz a4]
      exact change_any true _ _ _ w
    · cases hv
  · cases hv
noncomputable def tabJ : List (Nat × CtrF) := [(12, ctr0 (.bool true true)), (6, ctrCh)]
theorem tabJ_ok {R : Rws} : ∀ p ∈ tabJ, Good Try.prog R p.1 p.2 := good_cons (p := (_, _)) (ctr0_ok (enters_of Try.func12 (by kernel_rfl) rfl) rfl (fun w => works_any w)) (good_cons (p := (_, _)) ctrCh_ok good_nil)
noncomputable def EJ (R : Rws) : Env := ⟨Try.prog, eqsK Try.prog, R, lookF tabJ, fun _ => none, fun _ => false, fun f => Nat.beq f 15, fun _ => false⟩
theorem hEJ {R : Rws} (hR : RwOK R) : EnvOK (EJ R) := ⟨eqsK_ok, hR, fun f F h => lookF_ok tabJ_ok f F h, fun f F h => (by cases h), rfl⟩
/-- A row of words. -/
def rowB (A : Option Addr) (bs : List Vl) : RowI := ⟨A, bs.length, 4, fun i => wdA (bs.getD i.toNat v0), fun i => wdC (bs.getD i v0), []⟩
theorem wd_one (x : Vl) : ∀ v ∈ wdC x, v.oneCell' = true := by
  intro v hv
  simp only [wdC, List.mem_cons, List.not_mem_nil, or_false] at hv
  rcases hv with rfl | rfl | rfl | rfl <;> rfl
theorem rowB_ok {A : Option Addr} {bs : List Vl} (hA : 0 < bs.length → ∃ b off, A = some ⟨b, off, none⟩) : RwOK (rows1 (rowB A bs)) := by
  refine ⟨fun j r hj i _ => ?_, fun j r hj i _ => ?_, fun j r hj i _ => ?_, fun j r hj hn => ?_, fun j r hj a j' hs => ?_⟩ <;> obtain ⟨_, rfl⟩ := rows1_inv hj
  · rfl
  · rfl
  · exact wd_one _
  · exact hA hn
  · cases hs
theorem flat_row {α : Type} {f : α → List Value} {s : Nat} {d : α} (hs : 0 < s) (hf : ∀ x, (f x).length = s) (xs : List α) : (xs.flatMap f).length = xs.length * s ∧ ∀ i q u, i < xs.length → (f (xs.getD i d))[q]? = some u → (xs.flatMap f)[i * s + q]? = some u := by
  induction xs with
  | nil => exact ⟨by simp, fun i q u h => by simp at h⟩
  | cons x xs ih =>
    obtain ⟨h1, h2⟩ := ih
    rw [List.flatMap_cons]
    refine ⟨by rw [List.length_append, hf, h1, List.length_cons, Nat.add_mul, Nat.one_mul, Nat.add_comm], fun i q u hi hu => ?_⟩
    cases i with
    | zero =>
      have hq : q < s := by have := (List.getElem?_eq_some_iff.1 hu).1; rwa [hf] at this
      rw [Nat.zero_mul, Nat.zero_add, List.getElem?_append_left (by rw [hf]; exact hq)]
      exact hu
    | succ i =>
      rw [List.getElem?_append_right (by rw [hf, Nat.add_mul, Nat.one_mul]; omega), hf, show (i + 1) * s + q - s = i * s + q by rw [Nat.add_mul, Nat.one_mul]; omega]
      exact h2 i q u (by simpa using hi) hu
theorem rowB_rd {A : Option Addr} {bs : List Vl} {w : World} (hS : SlAt w A (bs.flatMap wdC)) : (0 < bs.length → ∃ b off, A = some ⟨b, off, none⟩) ∧ Rd (rows1 (rowB A bs)) [] w := by
  obtain ⟨h1, h2⟩ := flat_row (d := v0) (s := 4) (f := wdC) (by decide) (fun _ => rfl) bs
  rcases hS with h | ⟨b, off, rfl, hb, hc⟩
  · have h0 : bs.length = 0 := by
      have := congrArg List.length h
      rw [h1] at this; simp at this; omega
    refine ⟨fun h => absurd h (by omega), fun j r hj b off ha hn => ?_⟩
    obtain ⟨_, rfl⟩ := rows1_inv hj
    exact absurd hn (by show ¬ 0 < bs.length; omega)
  · refine ⟨fun _ => ⟨b, off, rfl⟩, fun j r hj b' off' ha hn => ?_⟩
    obtain ⟨_, rfl⟩ := rows1_inv hj
    cases ha
    exact ⟨by simp, hb, fun i hi q u hu => by
      have := hc _ _ (h2 i q u hi hu)
      show w.cell? ⟨b, off + i * 4 + q, none⟩ = some u
      rw [Nat.add_assoc]; exact this⟩
end Go.Proofs.Ytiglfbnicihpmaa
