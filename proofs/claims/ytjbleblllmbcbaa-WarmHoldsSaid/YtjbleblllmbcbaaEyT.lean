/- Blocks that are forgotten, or told by other labels; loops of so many rounds, by the evaluator. No program of its own. No condition. -/
import Derived.Test.YtjbleblllmbcbaaEyS
set_option linter.unusedVariables false
set_option linter.unusedSimpArgs false
namespace Go.Proofs.Ytjbleblllmbcbaa
open Go.RowKit

section
variable {D : List Deferred} {R : Rws}
def idxOf (l : Nat) : List Nat → Option Nat
  | [] => none
  | x :: r => bif Nat.beq l x then some 0 else (idxOf l r).map (· + 1)
theorem idxOf_get {l i : Nat} {sel : List Nat} (h : idxOf l sel = some i) : sel[i]? = some l := by
  induction sel generalizing i with
  | nil => cases h
  | cons x r ih =>
    unfold idxOf at h
    cases hb : Nat.beq l x <;> simp only [hb, cond_true, cond_false] at h
    · rw [Option.map_eq_some_iff] at h
      obtain ⟨j, h1, rfl⟩ := h
      simpa using ih h1
    · cases h; rw [Nat.eq_of_beq_eq_true hb]; rfl
mutual
def renA (sel : List Nat) : AV → Option AV
  | .ptr l o => (idxOf l sel).map fun l' => .ptr l' o
  | .slice l o n c => (idxOf l sel).map fun l' => .slice l' o n c
  | .func fn cs => (renL sel cs).map fun cs' => .func fn cs'
  | .agg cs => (renL sel cs).map fun cs' => .agg cs'
  | .tuple cs => (renL sel cs).map fun cs' => .tuple cs'
  | .bool l b => some (.bool l b)
  | .int k l n => some (.int k l n)
  | .bv k a => some (.bv k a)
  | .raw v => some (.raw v)
  | .rsl j n c => some (.rsl j n c)
  | .rptr j i o => some (.rptr j i o)
  | .gsl l o n => (idxOf l sel).map fun l' => .gsl l' o n
  | .gptr l i o => (idxOf l sel).map fun l' => .gptr l' i o
  | .mp l => (idxOf l sel).map fun l' => .mp l'
  | .junk => some .junk
def renL (sel : List Nat) : List AV → Option (List AV)
  | [] => some []
  | c :: r => match renA sel c, renL sel r with
    | some c', some r' => some (c' :: r')
    | _, _ => none
end
def renI (sel : List Nat) : AIt → Option AIt
  | .cells cs t => (renL sel cs).map fun cs' => .cells cs' t
  | .row n s F t none => some (.row n s F t none)
  | .row n s F t (some o) => (idxOf o sel).map fun o' => .row n s F t (some o')
  | .map m => some (.map m)
  | .gone => some .gone
mutual
theorem Rel.ren {ρ ρ' : Nums} {sel : List Nat} (hρ : ∀ i l : Nat, sel[i]? = some l → ρ'[i]? = ρ[l]?) : ∀ {v v' : AV} {V : Value}, renA sel v = some v' → Rel R ρ v V → Rel R ρ' v' V
  | _, _, _, h, .bool => by simp only [renA, Option.some.injEq] at h; subst h; exact .bool
  | _, _, _, h, .int => by simp only [renA, Option.some.injEq] at h; subst h; exact .int
  | _, _, _, h, .bv hs => by simp only [renA, Option.some.injEq] at h; subst h; exact .bv hs
  | _, _, _, h, .raw => by simp only [renA, Option.some.injEq] at h; subst h; exact .raw
  | _, _, _, h, .rsl h1 h2 => by simp only [renA, Option.some.injEq] at h; subst h; exact .rsl h1 h2
  | _, _, _, h, .rptr h1 h2 h3 => by simp only [renA, Option.some.injEq] at h; subst h; exact .rptr h1 h2 h3
  | _, _, _, h, .junk => by simp only [renA, Option.some.injEq] at h; subst h; exact .junk
  | _, _, _, h, .gsl hb h1 h2 h3 => by
    simp only [renA, Option.map_eq_some_iff] at h
    obtain ⟨l', e1, rfl⟩ := h
    exact .gsl ((hρ _ _ (idxOf_get e1)).trans hb) h1 h2 h3
  | _, _, _, h, .gptr hb => by
    simp only [renA, Option.map_eq_some_iff] at h
    obtain ⟨l', e1, rfl⟩ := h
    exact .gptr ((hρ _ _ (idxOf_get e1)).trans hb)
  | _, _, _, h, .mp hb => by
    simp only [renA, Option.map_eq_some_iff] at h
    obtain ⟨l', e1, rfl⟩ := h
    exact .mp ((hρ _ _ (idxOf_get e1)).trans hb)
  | _, _, _, h, .ptr hb => by
    simp only [renA, Option.map_eq_some_iff] at h
    obtain ⟨l', h1, rfl⟩ := h
    exact .ptr ((hρ _ _ (idxOf_get h1)).trans hb)
  | _, _, _, h, .slice hb => by
    simp only [renA, Option.map_eq_some_iff] at h
    obtain ⟨l', h1, rfl⟩ := h
    exact .slice ((hρ _ _ (idxOf_get h1)).trans hb)
  | _, _, _, h, .func hs => by
    simp only [renA, Option.map_eq_some_iff] at h
    obtain ⟨l', h1, rfl⟩ := h
    exact .func (RelL.ren hρ h1 hs)
  | _, _, _, h, .agg hs => by
    simp only [renA, Option.map_eq_some_iff] at h
    obtain ⟨l', h1, rfl⟩ := h
    exact .agg (RelL.ren hρ h1 hs)
  | _, _, _, h, .tuple hs => by
    simp only [renA, Option.map_eq_some_iff] at h
    obtain ⟨l', h1, rfl⟩ := h
    exact .tuple (RelL.ren hρ h1 hs)
theorem RelL.ren {ρ ρ' : Nums} {sel : List Nat} (hρ : ∀ i l : Nat, sel[i]? = some l → ρ'[i]? = ρ[l]?) : ∀ {v v' : List AV} {V : List Value}, renL sel v = some v' → RelL R ρ v V → RelL R ρ' v' V
  | _, _, _, h, .nil => by simp only [renL, Option.some.injEq] at h; subst h; exact .nil
  | _, _, _, h, .cons h1 h2 => by
    unfold renL at h
    split at h
    · rename_i e1 e2; cases h; exact .cons (Rel.ren hρ e1 h1) (RelL.ren hρ e2 h2)
    · cases h
end
def nodupN : List Nat → Bool
  | [] => true
  | x :: r => !memN x r && nodupN r
theorem memN_iff {x : Nat} {l : List Nat} : memN x l = true ↔ x ∈ l := by
  induction l with
  | nil => simp [memN]
  | cons y r ih =>
    unfold memN
    rw [Bool.or_eq_true, List.mem_cons, ih]
    constructor
    · rintro (h | h)
      · exact .inl (Nat.eq_of_beq_eq_true h)
      · exact .inr h
    · rintro (h | h)
      · exact .inl (by rw [h]; simp)
      · exact .inr h
theorem nodupN_spec : ∀ {l : List Nat}, nodupN l = true → l.Nodup
  | [], _ => List.nodup_nil
  | x :: r, h => by
    unfold nodupN at h
    rw [Bool.and_eq_true] at h
    refine List.nodup_cons.2 ⟨fun hm => ?_, nodupN_spec h.2⟩
    rw [memN_iff.2 hm] at h
    simp at h
/-- The blocks of these labels. -/
def pick (sel : List Nat) (Hr : List RBlk) : List RBlk := sel.filterMap fun l => Hr[l]?
theorem pick_get {Hr : List RBlk} : ∀ {sel : List Nat}, (∀ l ∈ sel, l < Hr.length) → ∀ i l : Nat, sel[i]? = some l → (pick sel Hr)[i]? = Hr[l]?
  | [], _, i, l, h => by cases h
  | x :: r, hv, i, l, h => by
    have hx : x < Hr.length := hv x (by simp)
    have e : pick (x :: r) Hr = Hr[x] :: pick r Hr := by unfold pick; rw [List.filterMap_cons]; simp [List.getElem?_eq_getElem hx]
    rw [e]
    cases i with
    | zero => simp at h; subst h; simp [List.getElem?_eq_getElem hx]
    | succ i => simpa using pick_get (fun l hl => hv l (by simp [hl])) i l (by simpa using h)
theorem pick_mem {Hr : List RBlk} {sel : List Nat} {p : RBlk} (h : p ∈ pick sel Hr) : p ∈ Hr := by
  unfold pick at h
  rw [List.mem_filterMap] at h
  obtain ⟨l, _, h⟩ := h
  exact List.mem_of_getElem? h
theorem pick_len {Hr : List RBlk} : ∀ {sel : List Nat}, (∀ l ∈ sel, l < Hr.length) → (pick sel Hr).length = sel.length
  | [], _ => rfl
  | x :: r, hv => by
    have hx : x < Hr.length := hv x (by simp)
    have e : pick (x :: r) Hr = Hr[x] :: pick r Hr := by unfold pick; rw [List.filterMap_cons]; simp [List.getElem?_eq_getElem hx]
    rw [e, List.length_cons, List.length_cons, pick_len (fun l hl => hv l (by simp [hl]))]
theorem nums_pick {Hr : List RBlk} {sel : List Nat} (hv : ∀ l ∈ sel, l < Hr.length) (i l : Nat) (h : sel[i]? = some l) : (nums (pick sel Hr))[i]? = (nums Hr)[l]? := by
  simp only [nums, List.getElem?_map, pick_get hv i l h]
theorem nums_pick_mem {Hr : List RBlk} {sel : List Nat} {b : Num} (h : b ∈ nums (pick sel Hr)) : b ∈ nums Hr := by
  simp only [nums, List.mem_map] at h ⊢
  obtain ⟨p, hp, e⟩ := h
  exact ⟨p, pick_mem hp, e⟩
theorem renI_live {sel : List Nat} {it jt : AIt} (h : renI sel it = some jt) : jt.live = it.live := by
  unfold renI at h
  split at h
  · rw [Option.map_eq_some_iff] at h; obtain ⟨_, _, rfl⟩ := h; rfl
  · cases h; rfl
  · rw [Option.map_eq_some_iff] at h; obtain ⟨_, _, rfl⟩ := h; rfl
  · cases h; rfl
  · cases h; rfl
/-- The owner, by its new label. -/
theorem renI_owner {sel : List Nat} {it jt : AIt} {i l : Nat} (h : renI sel it = some jt) (hl : sel[i]? = some l) : sel[jt.owner i]? = some (it.owner l) := by
  unfold renI at h
  split at h
  · rw [Option.map_eq_some_iff] at h; obtain ⟨_, _, rfl⟩ := h; exact hl
  · cases h; exact hl
  · rw [Option.map_eq_some_iff] at h; obtain ⟨o', ho, rfl⟩ := h; exact idxOf_get ho
  · cases h; exact hl
  · cases h; exact hl
theorem RelI.ren {ρ ρ' : Nums} {sel : List Nat} (hρ : ∀ i l : Nat, sel[i]? = some l → ρ'[i]? = ρ[l]?) {it jt : AIt} {p : RBlk} (h : renI sel it = some jt) (hr : RelI R ρ it p) : RelI R ρ' jt p := by
  cases hr with
  | cells hc =>
    simp only [renI, Option.map_eq_some_iff] at h
    obtain ⟨cs', h1, rfl⟩ := h
    exact .cells (RelL.ren hρ h1 hc)
  | @row n s F t own b cur c a b c d e =>
    cases own with
    | none => simp only [renI, Option.some.injEq] at h; subst h; exact .row a b c d e
    | some o =>
      simp only [renI, Option.map_eq_some_iff] at h
      obtain ⟨o', _, rfl⟩ := h
      exact .row a b c d e
  | map a => simp only [renI, Option.some.injEq] at h; subst h; exact .map a
  | gone => simp only [renI, Option.some.injEq] at h; subst h; exact .gone
end
def selK (sel : List Nat) (e0 : AExit) (live : List (Nat × AV)) (n : Nat) (H : Mem) : AExit → ASt → Prop := fun e st =>
  (eqE e e0, st.tl.length, live.map (fun p => (st.tl[p.1]?).bind (renA sel)), sel.map (fun l => (st.m.H[l]?).bind (renI sel)), st.m.ds) = (true, n, live.map (fun p => some p.2), H.map some, ([] : List Bool))
abbrev selR (live : List (Nat × AV)) (n : Nat) (H : Mem) : Bool × Nat × List (Option AV) × List (Option AIt) × List Bool := (true, n, live.map (fun p => some p.2), H.map some, [])
def allW : Nat → Bool := fun _ => true
theorem lives_ren {ρ ρ' : Nums} {sel : List Nat} {R : Rws} (hρ : ∀ i l : Nat, sel[i]? = some l → ρ'[i]? = ρ[l]?) {tl : List AV} {vs : List Value} (ht : RelL R ρ tl vs) {live : List (Nat × AV)} (hl : live.map (fun p => (tl[p.1]?).bind (renA sel)) = live.map (fun p => some p.2)) :
    ∃ tl', RelL R ρ' tl' vs ∧ tl'.length = tl.length ∧ Lives tl' live := by
  have key : ∀ (tl : List AV) (vs : List Value), RelL R ρ tl vs → ∀ i0, (∀ i v, look (i0 + i) live = some v → (tl[i]?).bind (renA sel) = some v) → ∃ tl', RelL R ρ' tl' vs ∧ tl'.length = tl.length ∧ ∀ i v, look (i0 + i) live = some v → tl'[i]? = some v := by
    intro tl vs h
    induction tl generalizing vs with
    | nil =>
      intro i0 hl
      cases h
      exact ⟨[], .nil, rfl, fun i v hv => by have := hl i v hv; simp at this⟩
    | cons c cs ih =>
      intro i0 hl
      cases h with | cons h1 h2 =>
      rename_i V Vs
      obtain ⟨tl', q1, q2, q3⟩ := ih Vs h2 (i0 + 1) (fun i v hv => by have := hl (i + 1) v (by rw [← hv]; congr 1; omega); simpa using this)
      rcases hq : look i0 live with _ | v
      · refine ⟨.raw V :: tl', .cons .raw q1, by simp [q2], fun i v hv => ?_⟩
        cases i with
        | zero => rw [Nat.add_zero, hq] at hv; cases hv
        | succ i => simpa using q3 i v (by rw [← hv]; congr 1; omega)
      · have hc := hl 0 v (by simpa using hq)
        simp at hc
        refine ⟨v :: tl', .cons (Rel.ren hρ hc h1) q1, by simp [q2], fun i u hu => ?_⟩
        cases i with
        | zero => rw [Nat.add_zero, hq] at hu; cases hu; rfl
        | succ i => simpa using q3 i u (by rw [← hu]; congr 1; omega)
  have hl' : ∀ i v, look (0 + i) live = some v → (tl[i]?).bind (renA sel) = some v := by
    intro i v hv
    rw [Nat.zero_add] at hv
    have aux : ∀ (l : List (Nat × AV)), l.map (fun p => (tl[p.1]?).bind (renA sel)) = l.map (fun p => some p.2) → look i l = some v → (tl[i]?).bind (renA sel) = some v := by
      intro l
      induction l with
      | nil => intro _ h; cases h
      | cons p r ih =>
        intro he h
        simp only [List.map_cons, List.cons.injEq] at he
        obtain ⟨j, u⟩ := p
        unfold look at h
        cases hb : Nat.beq i j <;> simp only [hb, cond_true, cond_false] at h
        · exact ih he.2 h
        · rw [Nat.eq_of_beq_eq_true hb]; cases h; exact he.1
    exact aux live hl hv
  obtain ⟨tl', q1, q2, q3⟩ := key tl vs ht 0 hl'
  exact ⟨tl', q1, q2, fun i v hv => q3 i v (by simpa using hv)⟩
section
variable {E : Env} (hE : EnvOK E) {Ds : List Nat} {n0 : Nat} {w0 : World}
include hE
/-- Code, however it ends; of the blocks only these are kept. -/
theorem ev_codeS (nf : Nat) (sel : List Nat) (e0 : AExit) {c : Code} {live live' : List (Nat × AV)} {n : Nat} {H H' : Mem} {ds ds' : List Bool} (hnd : nodupN sel = true) (h : ∀ r, Is (evT E nf (.code c) ⟨pat live r 0 n, ⟨H, ds, allW⟩⟩ (selK sel e0 live' n H')))
    {a : Act} {Hr : List RBlk} {w : World} {Q : Exit → Act → World → Prop} (hP : PatSt E.rows (Ds.map markD) live n ⟨H, ds', allW⟩ a Hr) (hB : Bun E.rows Ds n0 w0 H Hr w)
    (hk : ∀ a' Hr' w', PatSt E.rows (Ds.map markD) live' n ⟨H', [], allW⟩ a' Hr' → Bun E.rows Ds n0 w0 H' Hr' w' → Q e0.real a' w') : c.wp E.P Q a w := by
  obtain ⟨r, hR⟩ := hP
  obtain ⟨e, st', h1, hlo, hs⟩ := ev_sound hE nf (.code c) _ _ (h r).is
  refine wp_mono (hs a Hr w hR hB.own) ?_
  rintro e' a' w' ⟨rfl, Hr', hR', hO', hS⟩
  unfold selK at h1
  simp only [Prod.mk.injEq] at h1
  obtain ⟨he, hn, hl, hH, hd⟩ := h1
  rw [eqE_eq he]
  have hB' := hB.stp hO' hS
  obtain ⟨vs, rfl, ht, hBl, hnod⟩ := hR'
  have hbl := hBl.len
  have hlen : H'.length = sel.length := by have := congrArg List.length hH; simpa using this.symm
  have hat : ∀ i l : Nat, sel[i]? = some l → ∃ p q : AIt, st'.m.H[l]? = some p ∧ renI sel p = some q ∧ H'[i]? = some q := by
    intro i l hi
    have h2 := congrArg (fun z : List (Option AIt) => z[i]?) hH
    simp only [List.getElem?_map, hi, Option.map_some] at h2
    have hi' : i < H'.length := by rw [hlen]; exact (List.getElem?_eq_some_iff.1 hi).1
    rw [List.getElem?_eq_getElem hi', Option.map_some, Option.some.injEq] at h2
    rw [Option.bind_eq_some_iff] at h2
    obtain ⟨p, h3, h4⟩ := h2
    exact ⟨p, _, h3, h4, List.getElem?_eq_getElem hi'⟩
  have hv : ∀ l ∈ sel, l < Hr'.length := fun l hl => by
    obtain ⟨i, hi, hi'⟩ := List.mem_iff_getElem.1 hl
    obtain ⟨p, q, h3, _, _⟩ := hat i l (by rw [List.getElem?_eq_getElem hi, hi'])
    rw [hbl]; exact (List.getElem?_eq_some_iff.1 h3).1
  have hρ := nums_pick (Hr := Hr') hv
  obtain ⟨tl', t1, t2, t3⟩ := lives_ren hρ ht hl
  have hpk := pick_get (Hr := Hr') hv
  have hto : ∀ (i : Nat) jt q, H'[i]? = some jt → (pick sel Hr')[i]? = some q → ∃ l it, sel[i]? = some l ∧ st'.m.H[l]? = some it ∧ renI sel it = some jt ∧ Hr'[l]? = some q := fun i jt q h1 h2 => by
    have hi2 : i < sel.length := by rw [← hlen]; exact (List.getElem?_eq_some_iff.1 h1).1
    obtain ⟨p, q', h3, h4, h5⟩ := hat i sel[i] (List.getElem?_eq_getElem hi2)
    rw [h1] at h5; cases h5
    exact ⟨sel[i], p, List.getElem?_eq_getElem hi2, h3, h4, (hpk i _ (List.getElem?_eq_getElem hi2)).symm.trans h2⟩
  have hBl' : RelB E.rows (nums (pick sel Hr')) H' (pick sel Hr') := by
    refine ⟨by rw [pick_len hv, hlen], fun i jt q h1 h2 => ?_⟩
    obtain ⟨l, it, e1, e2, e3, e4⟩ := hto i jt q h1 h2
    exact RelI.ren hρ e3 (hBl.2 l it q e2 e4)
  have hnod' : Apart H' (pick sel Hr') := by
    have hsn := nodupN_spec hnd
    intro i j it1 jt1 p1 p2 hne h1 h2 l1 l2 q1 q2 hb
    obtain ⟨l, it, e1, e2, e3, e4⟩ := hto i it1 p1 h1 q1
    obtain ⟨m, jt, f1, f2, f3, f4⟩ := hto j jt1 p2 h2 q2
    have hlm : l ≠ m := fun e => by
      subst e
      have hi := (List.getElem?_eq_some_iff.1 e1).1
      exact hne ((List.getElem?_inj hi hsn).1 (e1.trans f1.symm))
    have ho := hnod l m it jt p1 p2 hlm e2 f2 (by rw [← renI_live e3]; exact l1) (by rw [← renI_live f3]; exact l2) e4 f4 hb
    have g1 := renI_owner e3 e1
    have g2 := renI_owner f3 f1
    rw [ho] at g1
    exact (List.getElem?_inj (List.getElem?_eq_some_iff.1 g1).1 hsn).1 (g1.trans g2.symm)
  have hP' : PatSt E.rows (Ds.map markD) live' n ⟨H', [], allW⟩ ⟨vs.toArray, Ds.map markD⟩ (pick sel Hr') :=
    patSt_of (live := live) (st := ⟨tl', ⟨H', [], allW⟩⟩) ⟨vs, rfl, t1, hBl', hnod'⟩ (by rw [t2]; exact hn) t3
  have hsub : ∀ b, b ∈ (nums (pick sel Hr')).map (·.b) → b ∈ (nums Hr').map (·.b) := fun b hb => by
    rw [List.mem_map] at hb ⊢
    obtain ⟨q, hq, e⟩ := hb
    exact ⟨q, nums_pick_mem hq, e⟩
  refine hk _ _ w' hP' ⟨⟨fun i jt q h1 h2 => ?_, hB'.own.2.sub hsub⟩, fun D hD => ?_, hB'.nodup, fun b hb => hB'.fresh b (nums_pick_mem hb), hB'.below, hB'.size⟩
  · obtain ⟨l, it, e1, e2, e3, e4⟩ := hto i jt q h1 h2
    obtain ⟨g1, g2⟩ := hB'.own.1 l it q e2 e4
    exact ⟨g1, fun hlv => g2 (by rw [← renI_live e3]; exact hlv)⟩
  · obtain ⟨q1, q2, q3⟩ := hB'.marks D hD
    exact ⟨q1, fun hm => q2 (hsub _ hm), q3⟩
omit hE in
/-- A loop of N rounds, and how it is left. -/
theorem ev_loopG {c : Code} (hc : isLp c = true) (N : Nat) (e0 : AExit) (he0 : eqE e0 .normal = false) {n : Nat} (live : Nat → List (Nat × AV)) (H : Nat → Mem) {live' : List (Nat × AV)} {H' : Mem} {Q : Exit → Act → World → Prop}
    (hstep : ∀ k, k < N → ∀ a Hr w (Q' : Exit → Act → World → Prop), PatSt E.rows (Ds.map markD) (live k) n ⟨H k, [], allW⟩ a Hr → Bun E.rows Ds n0 w0 (H k) Hr w → (∀ a' Hr' w', PatSt E.rows (Ds.map markD) (live (k + 1)) n ⟨H (k + 1), [], allW⟩ a' Hr' → Bun E.rows Ds n0 w0 (H (k + 1)) Hr' w' → Q' .normal a' w') → (lpB c).wp E.P Q' a w)
    (hlast : ∀ a Hr w (Q' : Exit → Act → World → Prop), PatSt E.rows (Ds.map markD) (live N) n ⟨H N, [], allW⟩ a Hr → Bun E.rows Ds n0 w0 (H N) Hr w → (∀ a' Hr' w', PatSt E.rows (Ds.map markD) live' n ⟨H', [], allW⟩ a' Hr' → Bun E.rows Ds n0 w0 H' Hr' w' → Q' e0.real a' w') → (lpB c).wp E.P Q' a w)
    {a : Act} {Hr : List RBlk} {w : World} (hP : PatSt E.rows (Ds.map markD) (live 0) n ⟨H 0, [], allW⟩ a Hr) (hB : Bun E.rows Ds n0 w0 (H 0) Hr w)
    (hk : ∀ a' Hr' w', PatSt E.rows (Ds.map markD) live' n ⟨H', [], allW⟩ a' Hr' → Bun E.rows Ds n0 w0 H' Hr' w' → Q e0.real a' w') : c.wp E.P Q a w := by
  refine wp_lp (N + 1) hc ?_
  have key : ∀ j k, k + j = N → ∀ a Hr w, PatSt E.rows (Ds.map markD) (live k) n ⟨H k, [], allW⟩ a Hr → Bun E.rows Ds n0 w0 (H k) Hr w → Code.rounds E.P (lpB c) Q (j + 1) a w := by
    intro j
    induction j with
    | zero =>
      intro k hkN a Hr w hP hB
      obtain rfl : k = N := by omega
      rw [rounds_succ]
      refine hlast a Hr w _ hP hB fun a' Hr' w' hP' hB' => ?_
      have := hk a' Hr' w' hP' hB'
      cases e0 <;> first | exact this | (cases he0)
    | succ j ih =>
      intro k hkN a Hr w hP hB
      rw [rounds_succ]
      exact hstep k (by omega) a Hr w _ hP hB fun a' Hr' w' hP' hB' => ih (k + 1) (by omega) a' Hr' w' hP' hB'
  exact key N 0 (by omega) a Hr w hP hB
end
end Go.Proofs.Ytjbleblllmbcbaa
