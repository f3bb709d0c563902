/- Pieces of code behind which some labels are kept. No program of its own. No condition. -/
import Derived.Test.YtcfomhnfhalmaaaEyF
set_option linter.unusedVariables false
set_option linter.unusedSimpArgs false
set_option maxRecDepth 100000
namespace Go.Proofs.Ytcfomhnfhalmaaa
open Go.RowKit

inductive TIt where
  | it (a : AIt)
  | row (n s : Nat) (t : TypeId) (own : Option Nat) (L : List (List AV))
def tellI : AIt → TIt
  | .row n s F t own => .row n s t own ((List.range n).map F)
  | a => .it a
def TIt.real : TIt → AIt
  | .it a => a
  | .row n s t own L => .row n s (fun i => L.getD i []) t own
theorem eqvI.refl (a : AIt) : eqvI a a := by
  unfold eqvI
  split
  · exact ⟨rfl, rfl, rfl, rfl, fun _ _ => rfl⟩
  · rfl
theorem tell_eqv (a : AIt) : eqvI a (tellI a).real := by
  cases a with
  | row n s F t own =>
    refine ⟨rfl, rfl, rfl, rfl, fun i hi => ?_⟩
    show AV.vals? (F i) = AV.vals? (((List.range n).map F).getD i [])
    rw [List.getD_eq_getElem?_getD, List.getElem?_map, List.getElem?_range hi]
    rfl
  | cells => exact eqvI.refl _
  | gone => exact eqvI.refl _
  | map => exact eqvI.refl _
theorem eqvM.of : ∀ {H G : Mem}, H.length = G.length → (∀ (i : Nat) a b, H[i]? = some a → G[i]? = some b → eqvI a b) → eqvM H G
  | [], [], _, _ => trivial
  | a :: r, b :: q, hl, h => ⟨h 0 a b rfl rfl, eqvM.of (by simpa using hl) fun i x y hx hy => h (i + 1) x y (by simpa using hx) (by simpa using hy)⟩
def selT (sel : List Nat) (e0 : AExit) (live : List (Nat × AV)) (n : Nat) (T : List TIt) : AExit → ASt → Prop := fun e st =>
  (eqE e e0, st.tl.length, live.map (fun p => (st.tl[p.1]?).bind (renA sel)), sel.map (fun l => ((st.m.H[l]?).bind (renI sel)).map tellI), st.m.ds) = (true, n, live.map (fun p => some p.2), T.map some, ([] : List Bool))
abbrev selTR (live : List (Nat × AV)) (n : Nat) (T : List TIt) : Bool × Nat × List (Option AV) × List (Option TIt) × List Bool := (true, n, live.map (fun p => some p.2), T.map some, [])
section
variable {E : Env} (hE : EnvOK E) {Ds : List Nat} {n0 : Nat} {w0 : World}
include hE
/-- Code, however it ends; of the blocks only these are kept, rows of a known length are told by lists. -/
theorem ev_codeT (nf : Nat) (sel : List Nat) (e0 : AExit) {c : Code} {live live' : List (Nat × AV)} {n : Nat} {H : Mem} {T : List TIt} {ds ds' : List Bool} (hnd : nodupN sel = true) (h : ∀ r, Is (evT E nf (.code c) ⟨pat live r 0 n, ⟨H, ds, allW⟩⟩ (selT sel e0 live' n T)))
    {a : Act} {Hr : List RBlk} {w : World} {Q : Exit → Act → World → Prop} (hP : PatSt E.rows (Ds.map markD) live n ⟨H, ds', allW⟩ a Hr) (hB : Bun E.rows Ds n0 w0 H Hr w)
    (hk : ∀ a' Hr' w', PatSt E.rows (Ds.map markD) live' n ⟨T.map TIt.real, [], allW⟩ a' Hr' → Bun E.rows Ds n0 w0 (T.map TIt.real) Hr' w' → Q e0.real a' w') : c.wp E.P Q a w := by
  obtain ⟨r, hR⟩ := hP
  obtain ⟨e, st', h1, hlo, hs⟩ := ev_sound hE nf (.code c) _ _ (h r).is
  refine wp_mono (hs a Hr w hR hB.own) ?_
  rintro e' a' w' ⟨rfl, Hr', hR', hO', hS⟩
  unfold selT at h1
  simp only [Prod.mk.injEq] at h1
  obtain ⟨he, hn, hl, hH, hd⟩ := h1
  rw [eqE_eq he]
  have hB' := hB.stp hO' hS
  obtain ⟨vs, rfl, ht, hBl, hnod⟩ := hR'
  have hlen : T.length = sel.length := by have := congrArg List.length hH; simpa using this.symm
  have hat0 : ∀ i l : Nat, sel[i]? = some l → ∃ it jt, st'.m.H[l]? = some it ∧ renI sel it = some jt ∧ T[i]? = some (tellI jt) := fun i l hi => by
    have h2 := congrArg (fun z : List (Option TIt) => z[i]?) hH
    simp only [List.getElem?_map, hi, Option.map_some] at h2
    have hi' : i < T.length := by rw [hlen]; exact (List.getElem?_eq_some_iff.1 hi).1
    rw [List.getElem?_eq_getElem hi', Option.map_some, Option.some.injEq, Option.map_eq_some_iff] at h2
    obtain ⟨jt, h3, h4⟩ := h2
    rw [Option.bind_eq_some_iff] at h3
    obtain ⟨it, h5, h6⟩ := h3
    exact ⟨it, jt, h5, h6, by rw [List.getElem?_eq_getElem hi', h4]⟩
  let H1 : Mem := sel.map fun l => ((st'.m.H[l]?).bind (renI sel)).getD .gone
  have hH1 : ∀ i l : Nat, sel[i]? = some l → ∃ it jt, st'.m.H[l]? = some it ∧ H1[i]? = some jt ∧ renI sel it = some jt := fun i l hi => by
    obtain ⟨it, jt, h3, h4, _⟩ := hat0 i l hi
    exact ⟨it, jt, h3, by simp [H1, List.getElem?_map, hi, h3, h4], h4⟩
  obtain ⟨g1, g2, g3, g4⟩ := sel_mem (H'' := H1) hnd (by simp [H1]) hH1 hBl hnod hO'
  have heq : eqvM H1 (T.map TIt.real) := by
    refine eqvM.of (by simp [H1, hlen]) fun i a b ha hb => ?_
    have hi : i < sel.length := by have := (List.getElem?_eq_some_iff.1 ha).1; simpa [H1] using this
    obtain ⟨it, jt, h3, h4, h5⟩ := hat0 i _ (List.getElem?_eq_getElem hi)
    obtain ⟨it', jt', k1, k2, k3⟩ := hH1 i _ (List.getElem?_eq_getElem hi)
    rw [h3] at k1; cases k1
    rw [h4] at k3; cases k3
    rw [k2] at ha; cases ha
    rw [List.getElem?_map, h5] at hb
    cases hb
    exact tell_eqv _
  obtain ⟨k1, k2, k3⟩ := heq.mem g2 g3 g4
  obtain ⟨tl', t1, t2, t3⟩ := lives_ren (fun i l h => nums_pick g1 i l h) ht hl
  have hP' : PatSt E.rows (Ds.map markD) live' n ⟨T.map TIt.real, [], allW⟩ ⟨vs.toArray, Ds.map markD⟩ (pick sel Hr') :=
    patSt_of (live := live) (st := ⟨tl', ⟨T.map TIt.real, [], allW⟩⟩) ⟨vs, rfl, t1, k1, k2⟩ (by rw [t2]; exact hn) t3
  have hsub : ∀ b, b ∈ bs (nums (pick sel Hr')) → b ∈ bs (nums Hr') := fun b hb => by
    rw [mem_bs] at hb ⊢
    obtain ⟨q, hq, e⟩ := hb
    exact ⟨q, nums_pick_mem hq, e⟩
  refine hk _ _ w' hP' ⟨k3, fun D hD => ?_, hB'.nodup, fun b hb hbp => hB'.fresh b (nums_pick_mem hb) hbp, hB'.below, hB'.size⟩
  obtain ⟨q1, q2, q3⟩ := hB'.marks D hD
  exact ⟨q1, fun hm => q2 (hsub _ hm), q3⟩
end
end Go.Proofs.Ytcfomhnfhalmaaa
