/- What the laws of layer 27 are carried out by. No condition. -/
import Derived.Test.YtcfomhnfhalmaaaEyU
import Derived.Test.YtcfomhnfhalmaaaEyZ
import Derived.Test.YtcfomhnfhalmaaaStackA
import Derived.Test.YtcfomhnfhalmaaaStackR
import Derived.Test.YtcfomhnfhalmaaaLab
set_option linter.unusedVariables false
set_option linter.unusedSimpArgs false
set_option maxRecDepth 100000
namespace Go.Proofs.Ytcfomhnfhalmaaa
open Go.RowKit

/-- A label, however it is told. -/
def labA : AV → Option (Bool × BitVec 64 × List Bool)
  | .int .u64 l x => some (l, BitVec.ofInt 64 x, [decide (0 ≤ x ∧ x ≤ 18446744073709551615)])
  | .bv .u64 a => some (false, a, [])
  | _ => none
theorem labA_rel {R : Rws} {ρ : Nums} {x : AV} {l : Bool} {a : BitVec 64} {cs : List Bool} {V : Value} (h : labA x = some (l, a, cs)) (hcs : ∀ c ∈ cs, c = true) (hr : Rel R ρ x V) : V = .int .u64 (a.toNat : Int) := by
  unfold labA at h
  split at h
  · rename_i l' x
    cases h
    cases hr
    have h0 := of_decide_eq_true (hcs _ (List.mem_singleton.2 rfl))
    congr 1
    rw [BitVec.toNat_ofInt]
    have h1 := h0.1; have h2 := h0.2
    simp only [Nat.reducePow]; omega
  · cases h; cases hr; rfl
  · cases h
def belowB (a b : BitVec 64) : Bool := decide (a &&& ~~~b = 0#64)
def ctrBelow : CtrF
  | [x, y], _ => match labA x, labA y with
    | some (l, a, cs), some (m, b, ds) => some (.bool (l && m) (belowB a b), cs ++ ds)
    | _, _ => none
  | _, _ => none
theorem ctrBelow_ok {R : Rws} : Good Try.prog R 55 ctrBelow := by
  refine ⟨enters_of Try.func55 (by kernel_rfl) rfl, fun args H v cs hv hcs => ?_⟩
  unfold ctrBelow at hv
  split at hv
  · rename_i x y
    split at hv
    · rename_i l a cs1 m b cs2 h1 h2
      cases hv
      refine ⟨_, rfl, fun Hr Args ha _ _ w _ => ?_⟩
      cases ha with | cons a1 ha =>
      cases ha with | cons a2 ha =>
      cases ha
      obtain rfl := labA_rel h1 (fun c hc => hcs c (List.mem_append.2 (.inl hc))) a1
      obtain rfl := labA_rel h2 (fun c hc => hcs c (List.mem_append.2 (.inr hc))) a2
      refine (refBelow_any _ _ w (by omega) (by omega)).mono ?_
      rintro e w' ⟨rfl, rfl⟩
      rw [refBelow_bits]
      exact ⟨rfl, Below.refl _ _⟩
    · cases hv
  · cases hv
noncomputable def tabT : List (Nat × CtrF) := [(81, ctrReach), (55, ctrBelow)]
noncomputable def tabM (R : Rws) : List (Nat × CtmF) := [(35, cloneF 5 cvE R), (49, cloneF 2 ccE R)]
noncomputable def pureS (f : Nat) : Bool := Nat.beq f 22 || Nat.beq f 82 || Nat.beq f 81
noncomputable def genS (f : Nat) : Bool := Nat.beq f 44 || Nat.beq f 68 || Nat.beq f 38 || Nat.beq f 42 || Nat.beq f 72 || Nat.beq f 9 || Nat.beq f 15 || Nat.beq f 12 || Nat.beq f 27 || Nat.beq f 16 || Nat.beq f 35 || Nat.beq f 49 || Nat.beq f 62 || Nat.beq f 26
noncomputable def effS (f : Nat) : Bool := Nat.beq f 36 || Nat.beq f 65 || Nat.beq f 11 || Nat.beq f 13 || Nat.beq f 29 || Nat.beq f 28 || Nat.beq f 33 || Nat.beq f 17 || Nat.beq f 19 || Nat.beq f 50
/-- g: are numbers reckoned at once? -/
noncomputable def EG (R : Rws) (g : Bool) (T : List (Nat × CtrF)) (M : List (Nat × CtmF)) : Env := ⟨Try.prog, eqsK Try.prog, R, lookF (T ++ tabT), lookCm (M ++ tabM R), pureS, fun f => (g && Nat.beq f 1000003) || genS f, effS⟩
theorem tabM_ok {R : Rws} (hR : RwOK R) : ∀ p ∈ tabM R, GoodM Try.prog R p.1 p.2 := fun p hp => by
  unfold tabM at hp
  rcases List.mem_cons.1 hp with rfl | hp
  · exact ⟨enters_of Try.func35 (by kernel_rfl) rfl, fun args H wr v H' cs h1 h2 Hr w Args h3 h4 h5 h6 => cvany hR args H wr v H' cs h1 h2 Hr w Args h3 h4 h5 h6⟩
  · rw [List.mem_singleton.1 hp]
    exact ⟨enters_of Try.func49 (by kernel_rfl) rfl, fun args H wr v H' cs h1 h2 Hr w Args h3 h4 h5 h6 => ccany hR args H wr v H' cs h1 h2 Hr w Args h3 h4 h5 h6⟩
theorem EG_ok {R : Rws} (hR : RwOK R) (g : Bool) {T : List (Nat × CtrF)} {M : List (Nat × CtmF)} (hT : ∀ p ∈ T, Good Try.prog R p.1 p.2) (hM : ∀ p ∈ M, GoodM Try.prog R p.1 p.2) : EnvOK (EG R g T M) :=
  ⟨eqsK_ok, hR, fun f F h => lookF_ok (fun p hp => by
    rcases List.mem_append.1 hp with hp | hp
    · exact hT p hp
    · rcases List.mem_cons.1 hp with rfl | hp
      · exact ctrReach_ok
      · rw [List.mem_singleton.1 hp]; exact ctrBelow_ok) f F h, fun f F h => lookCm_ok (fun p hp => by
    rcases List.mem_append.1 hp with hp | hp
    · exact hM p hp
    · exact tabM_ok hR p hp) f F h, rfl⟩
theorem allE_same : ∀ l : List Bool, AllE (l.map fun b => (b, b))
  | [] => allE_nil
  | _ :: l => allE_cons rfl (allE_same l)
structure V5 where
  a : BitVec 64
  b : BitVec 64
  c : BitVec 64
  d : BitVec 64
  l : BitVec 64
def v5 (x : V5) : List AV := [.bv .u64 x.a, .bv .u64 x.b, .bv .u64 x.c, .bv .u64 x.d, .bv .u64 x.l]
def z5 : V5 := ⟨0, 0, 0, 0, 0⟩
def F5 (L : List V5) (i : Nat) : List AV := v5 (L.getD i z5)
end Go.Proofs.Ytcfomhnfhalmaaa
