/- Regions that draw their order. No program of its own. No condition. -/
import Derived.Test.YtjbleblllmbcbaaEyH
set_option linter.unusedVariables false
set_option linter.unusedSimpArgs false
namespace Go.Proofs.Ytjbleblllmbcbaa
open Go.RowKit
variable {D : List Deferred} {R : Rws}
theorem planFrom_ok {gen eff : FuncId → Bool} {l : List Oper} {p : Plan} : ∀ {k n : Nat}, planFrom gen eff l k n = some p → p.ok l = true
  | 0, n, h => by cases h
  | k + 1, n, h => by
    unfold planFrom at h
    simp only at h
    cases h1 : (planAt gen eff l n).ok l <;> simp only [h1, cond_true, cond_false] at h
    · exact planFrom_ok h
    · cases h; exact h1
theorem stat_of {gen eff : FuncId → Bool} {st : ASt} {l : List Oper} {n : Nat} {Hr : List RBlk} (hl : Hr.length = st.m.H.length) : Stat (statOf gen eff st l n) Hr st.m.H Hr := fun i hi => by
  unfold statOf at hi
  cases ha : anyEff gen eff (l.take n) <;> simp only [ha, cond_true, cond_false, Option.getD_some, Option.getD_none] at hi
  · rw [Bool.and_eq_true, Bool.and_eq_true, Nat.blt_eq] at hi
    obtain ⟨⟨h1, h2⟩, _⟩ := hi
    split at h2
    · rename_i cs t hit
      exact ⟨_, cs, t, List.getElem?_eq_getElem (by omega), List.getElem?_eq_getElem (by omega), hit⟩
    · cases h2
  · cases hi
section
variable {E : Env} (hE : EnvOK E) {call : CallF} (hC : CallOK E call)
include hE hC
/-- A region that draws its order. -/
theorem drawn_sound {id : Nat} {l : List Oper} {st : ASt} {K : ASt → Prop} (h : drawnP E call l st K) : ∃ st', K st' ∧ st'.m.wr = st.m.wr ∧ ∀ {D : List Deferred} a Hr w, RelSt E.rows D st a Hr → OwnK E.rows st.m.H Hr w → ∀ Q : Exit → Act → World → Prop,
    (∀ a' Hr' w', RelSt E.rows D st' a' Hr' → OwnK E.rows st'.m.H Hr' w' → Stp st.m.wr Hr w Hr' w' → Q .normal a' w') → (Code.region id l.toArray true).wp E.P Q a w := by
  unfold drawnP at h
  split at h
  · rename_i p hp
    obtain ⟨st1, h1, hlo1, h2⟩ := head_sound hE hC st.m.H.length (statOf E.gen E.eff st l p.n) l p.ord st _ h
    obtain ⟨st2, h3, hlo2, h4⟩ := list_sound hE hC l (l.drop p.n) st1 K h1
    refine ⟨st2, h3, hlo2.trans hlo1, fun a Hr w hR hO Q hq => ?_⟩
    have hok := planFrom_ok hp
    unfold Plan.ok at hok
    have hlen : Hr.length = st.m.H.length := by obtain ⟨_, _, _, hB, _⟩ := hR; exact hB.len
    have hst := stat_of (gen := E.gen) (eff := E.eff) (l := l) (n := p.n) hlen
    have hdr := (Below.refl w.heap.size w).drew
    refine Fw.wp_region_grow p.n p.C p.G p.T0 p.ord p.tl (StP E.rows (statOf E.gen E.eff st l p.n) Hr) (Cl E.rows st.m.wr Hr w st.m.H Hr) (cl_st hst) cl_stable hE.mixed hok ⟨⟨hO.1.grow hdr, hO.2.below' hdr⟩, .of_below hdr⟩ ?_
    refine h2 a Hr hR Hr w _ _ cl_stable (fun _ h => h) hlen hst fun a' Hr' S' hR' hS' w' hss hw' => ?_
    have hcl := hS' w' hw'
    refine h4 a' Hr' w' hR' hcl.1 Q fun a2 Hr2 w2 hR2 hO2 hS2 => hq a2 Hr2 w2 hR2 hO2 ?_
    rw [hlo1] at hS2
    exact hcl.2.trans hS2
  · exact h.elim
theorem drawn_in (lr : Nat) {id : Nat} {l : List Oper} {st : ASt} {K : ASt → Prop} (hd : noDefer l = true) (h : drawnP E call l st K) : ∃ st', K st' ∧ st'.m.wr = st.m.wr ∧ ∀ {D : List Deferred} a Hr w, RelSt E.rows D st a Hr → OwnK E.rows st.m.H Hr w → ∀ Q : Exit → Act → World → Prop, ¬ LetsOut Q →
    (∀ a' Hr' w', RelSt E.rows D st' a' Hr' → OwnK E.rows st'.m.H Hr' w' → Stp st.m.wr Hr w Hr' w' → Q .normal a' w') → (Code.region id l.toArray true).wpIn (Fence.wide.inRound lr) 0 E.P Q a w := by
  unfold drawnP at h
  split at h
  · rename_i p hp
    obtain ⟨st1, h1, hlo1, h2⟩ := head_sound hE hC st.m.H.length (statOf E.gen E.eff st l p.n) l p.ord st _ h
    obtain ⟨st2, h3, hlo2, h4⟩ := list_sound hE hC l (l.drop p.n) st1 K h1
    refine ⟨st2, h3, hlo2.trans hlo1, fun a Hr w hR hO Q hlq hq => ?_⟩
    have hok := planFrom_ok hp
    unfold Plan.ok at hok
    have hlen : Hr.length = st.m.H.length := by obtain ⟨_, _, _, hB, _⟩ := hR; exact hB.len
    have hst := stat_of (gen := E.gen) (eff := E.eff) (l := l) (n := p.n) hlen
    have hdr := (Below.refl w.heap.size w).drew
    refine Fw.regInG hd hlq p.n p.C p.G p.T0 p.ord p.tl (StP E.rows (statOf E.gen E.eff st l p.n) Hr) (Cl E.rows st.m.wr Hr w st.m.H Hr) (cl_st hst) cl_stable hE.mixed hok ⟨⟨hO.1.grow hdr, hO.2.below' hdr⟩, .of_below hdr⟩ ?_
    refine h2 a Hr hR Hr w _ _ cl_stable (fun _ h => h) hlen hst fun a' Hr' S' hR' hS' w' hss hw' => ?_
    have hcl := hS' w' hw'
    refine h4 a' Hr' w' hR' hcl.1 Q fun a2 Hr2 w2 hR2 hO2 hS2 => hq a2 Hr2 w2 hR2 hO2 ?_
    rw [hlo1] at hS2
    exact hcl.2.trans hS2
  · exact h.elim
end
end Go.Proofs.Ytjbleblllmbcbaa
