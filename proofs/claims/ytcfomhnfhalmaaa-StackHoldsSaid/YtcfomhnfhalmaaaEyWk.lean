/- States told in a weaker way. No program of its own. No condition. -/
import Derived.Test.YtcfomhnfhalmaaaEyFr
set_option linter.unusedVariables false
set_option linter.unusedSimpArgs false
set_option maxRecDepth 100000
namespace Go.Proofs.Ytcfomhnfhalmaaa
open Go.RowKit

/-- What is said by the first is said by the second too. -/
def wkA (x y : AV) : Prop := ∀ (R : Rws) (ρ : Nums) (V : Value), Rel R ρ x V → Rel R ρ y V
theorem wkA.refl (x : AV) : wkA x x := fun _ _ _ h => h
theorem wkA.trans {x y z : AV} (h : wkA x y) (k : wkA y z) : wkA x z := fun R ρ V q => k R ρ V (h R ρ V q)
theorem wkA_any {k : Cp} {l o n : Nat} : wkA (.gsl k l o n) (.gsl .any l o n) := fun R ρ V h => by
  cases h with | gsl hj hn ha hk hm => exact .gsl hj hn ha trivial hm
theorem wkA_int {k : IntKind} {l l' : Bool} {x : Int} : wkA (.int k l x) (.int k l' x) := fun R ρ V h => by cases h; exact .int
theorem wkA_intE {k : IntKind} {l l' : Bool} {x y : Int} (e : x = y) : wkA (.int k l x) (.int k l' y) := fun R ρ V h => by subst e; cases h; exact .int
theorem wkA_bool {l l' b : Bool} : wkA (.bool l b) (.bool l' b) := fun R ρ V h => by cases h; exact .bool
theorem wkA_boolE {l l' b c : Bool} (e : b = c) : wkA (.bool l b) (.bool l' c) := fun R ρ V h => by subst e; cases h; exact .bool
theorem wkA_junk {x : AV} : wkA x .junk := fun _ _ _ _ => .junk
theorem wkA_eq {x y : AV} (e : x = y) : wkA x y := fun R ρ V h => e ▸ h
theorem wkA_bv {l : Bool} {x : Int} {a : BitVec 64} (e : x = (a.toNat : Int)) : wkA (.int .u64 l x) (.bv .u64 a) := fun R ρ V h => by
  subst e; cases h; exact .bv rfl
def wkL : List AV → List AV → Prop
  | [], [] => True
  | a :: r, b :: q => wkA a b ∧ wkL r q
  | _, _ => False
theorem wkL.refl : ∀ l : List AV, wkL l l
  | [] => trivial
  | a :: r => ⟨wkA.refl a, wkL.refl r⟩
theorem wkL.rel {R : Rws} {ρ : Nums} : ∀ {a b : List AV} {V : List Value}, wkL a b → RelL R ρ a V → RelL R ρ b V
  | [], [], _, _, h => h
  | _ :: _, _ :: _, _, h, .cons h1 h2 => .cons (h.1 R ρ _ h1) (wkL.rel h.2 h2)
theorem wkA_tuple {a b : List AV} (h : wkL a b) : wkA (.tuple a) (.tuple b) := fun R ρ V q => by
  cases q with | tuple q => exact .tuple (h.rel q)
/-- Rows may be told shorter and in other words, cells in other words. -/
def wkI : AIt → AIt → Prop
  | _, .gone => True
  | .cells cs t, .cells cs' t' => t = t' ∧ wkL cs cs'
  | .row n s F t own, .row n' s' F' t' own' => n' ≤ n ∧ s = s' ∧ t = t' ∧ own = own' ∧ ∀ i, i < n' → AV.vals? (F i) = AV.vals? (F' i)
  | a, b => a = b
theorem wkI.refl : ∀ a : AIt, wkI a a
  | .cells _ _ => ⟨rfl, wkL.refl _⟩
  | .row _ _ _ _ _ => ⟨Nat.le_refl _, rfl, rfl, rfl, fun _ _ => rfl⟩
  | .map _ => rfl
  | .gone => trivial
theorem wkI_row {n n' s : Nat} {F F' : Nat → List AV} {t : TypeId} {own : Option Nat} (hn : n' ≤ n) (h : ∀ i, i < n' → F i = F' i) : wkI (.row n s F t own) (.row n' s F' t own) := ⟨hn, rfl, rfl, rfl, fun i hi => by rw [h i hi]⟩
theorem wkI.rel {R : Rws} {ρ : Nums} {a b : AIt} {p : RBlk} (h : wkI a b) (hr : RelI R ρ a p) : RelI R ρ b p := by
  unfold wkI at h
  split at h
  · exact .gone
  · obtain ⟨rfl, h⟩ := h
    cases hr with | cells h1 h2 => exact .cells (h.rel h1) h2
  · obtain ⟨hn, rfl, rfl, rfl, h⟩ := h
    cases hr with
    | row a1 c d e f => exact .row (fun i hi => by obtain ⟨U, u1, u2⟩ := a1 i (by omega); exact ⟨U, by rw [← h i hi]; exact u1, u2⟩) c (by omega) e f
    | row0 hp => obtain rfl := Nat.le_zero.1 hn; exact .row0 hp
  · subst h; exact hr
theorem wkI.live {a b : AIt} (h : wkI a b) (hb : b.live = true) : a.live = true := by
  unfold wkI at h
  split at h
  · cases hb
  · rfl
  · obtain ⟨hn, rfl, rfl, rfl, h⟩ := h
    rename_i own _ _ _; cases own <;> exact hb
  · subst h; exact hb
theorem wkI.owner {a b : AIt} (h : wkI a b) (hb : b.live = true) (l : Nat) : b.owner l = a.owner l := by
  unfold wkI at h
  split at h
  · cases hb
  · rfl
  · obtain ⟨hn, rfl, rfl, rfl, h⟩ := h
    cases ‹Option Nat› <;> rfl
  · subst h; rfl
def wkM : Mem → Mem → Prop
  | [], [] => True
  | a :: r, b :: q => wkI a b ∧ wkM r q
  | _, _ => False
theorem wkM.refl : ∀ H : Mem, wkM H H
  | [] => trivial
  | a :: r => ⟨wkI.refl a, wkM.refl r⟩
theorem wkM.len : ∀ {H G : Mem}, wkM H G → H.length = G.length
  | [], [], _ => rfl
  | _ :: _, _ :: _, h => by rw [List.length_cons, List.length_cons, wkM.len h.2]
theorem wkM.at : ∀ {H G : Mem}, wkM H G → ∀ (l : Nat) b, G[l]? = some b → ∃ a, H[l]? = some a ∧ wkI a b
  | [], [], _, l, b, h => by simp at h
  | a :: r, b :: q, h, 0, c, hc => by simp at hc; subst hc; exact ⟨a, rfl, h.1⟩
  | a :: r, b :: q, h, l + 1, c, hc => by
    obtain ⟨x, h1, h2⟩ := wkM.at h.2 l c (by simpa using hc)
    exact ⟨x, by simpa using h1, h2⟩
theorem wkM.mem {R : Rws} {H G : Mem} {Hr : List RBlk} (h : wkM H G) (hB : RelB R (nums Hr) H Hr) (hn : Apart H Hr) : RelB R (nums Hr) G Hr ∧ Apart G Hr := by
  refine ⟨⟨hB.1.trans h.len, fun l b p h1 h2 => ?_⟩, fun i j b c p q hne h1 h2 v1 v2 q1 q2 z1 z2 hb => ?_⟩
  · obtain ⟨a, g1, g2⟩ := h.at l b h1
    exact g2.rel (hB.2 l a p g1 h2)
  · obtain ⟨a, g1, g2⟩ := h.at i b h1
    obtain ⟨d, k1, k2⟩ := h.at j c h2
    have := hn i j a d p q hne g1 k1 (g2.live v1) (k2.live v2) q1 q2 z1 z2 hb
    rw [g2.owner v1, k2.owner v2]; exact this
theorem wkM.own {R : Rws} {H G : Mem} {Hr : List RBlk} {w : World} (h : wkM H G) (hO : OwnK R H Hr w) : OwnK R G Hr w := by
  refine ⟨fun l b p h1 h2 hp => ?_, hO.2⟩
  obtain ⟨a, g1, g2⟩ := h.at l b h1
  obtain ⟨k1, k2⟩ := hO.1 l a p g1 h2 hp
  exact ⟨k1, fun hl => k2 (g2.live hl)⟩
def wkV : List (Nat × AV) → List (Nat × AV) → Prop
  | [], [] => True
  | (i, a) :: r, (j, b) :: q => i = j ∧ wkA a b ∧ wkV r q
  | _, _ => False
theorem wkV.refl : ∀ l : List (Nat × AV), wkV l l
  | [] => trivial
  | (_, a) :: r => ⟨rfl, wkA.refl a, wkV.refl r⟩
theorem wkV.look {i : Nat} : ∀ {l m : List (Nat × AV)}, wkV l m → (∃ v u, look i l = some v ∧ look i m = some u ∧ wkA v u) ∨ (look i l = none ∧ look i m = none)
  | [], [], _ => .inr ⟨rfl, rfl⟩
  | (j, a) :: r, (k, b) :: q, h => by
    obtain ⟨rfl, h1, h2⟩ := h
    unfold Proofs.Ytcfomhnfhalmaaa.look
    cases hb : Nat.beq i j <;> simp only [cond_true, cond_false]
    · exact wkV.look h2
    · exact .inl ⟨a, b, rfl, rfl, h1⟩
theorem pat_wk {l m : List (Nat × AV)} {r : Nat → Value} (h : wkV l m) : ∀ n i : Nat, wkL (pat l r i n) (pat m r i n)
  | 0, _ => trivial
  | n + 1, i => by
    unfold pat
    refine ⟨?_, pat_wk h n (i + 1)⟩
    rcases h.look (i := i) with ⟨v, u, h1, h2, h3⟩ | ⟨h1, h2⟩
    · rw [h1, h2]; exact h3
    · rw [h1, h2]; exact wkA.refl _
theorem PatSt.wk {R : Rws} {D : List Deferred} {live live' : List (Nat × AV)} {n : Nat} {H H' : Mem} {ds ds' : List Bool} {wr wr' : Nat → Bool} {a : Act} {Hr : List RBlk} (hP : PatSt R D live n ⟨H, ds, wr⟩ a Hr) (hl : wkV live live') (hm : wkM H H') : PatSt R D live' n ⟨H', ds', wr'⟩ a Hr := by
  obtain ⟨r, vs, e, ht, hB, hA⟩ := hP
  obtain ⟨h1, h2⟩ := hm.mem hB hA
  exact ⟨r, vs, e, (pat_wk hl n 0).rel ht, h1, h2⟩
theorem Bun.wk {R : Rws} {Ds : List Nat} {n0 : Nat} {w0 : World} {H H' : Mem} {Hr : List RBlk} {w : World} (h : Bun R Ds n0 w0 H Hr w) (hm : wkM H H') : Bun R Ds n0 w0 H' Hr w := ⟨hm.own h.own, h.marks, h.nodup, h.fresh, h.below, h.size⟩
section
variable {E : Env} (hE : EnvOK E) {Ds : List Nat} {n0 : Nat} {w0 : World}
include hE
/-- A piece of code behind which some labels are kept, told in a weaker way. -/
theorem ev_codeW (nf : Nat) (sel : List Nat) (e0 : AExit) {c : Code} {live live' live'' : List (Nat × AV)} {n : Nat} {H H' H'' : Mem} {ds ds' : List Bool} (hnd : nodupN sel = true) (h : ∀ r, Is (evT E nf (.code c) ⟨pat live r 0 n, ⟨H, ds, allW⟩⟩ (selK sel e0 live' n H'))) (hl : wkV live' live'') (hm : wkM H' H'')
    {a : Act} {Hr : List RBlk} {w : World} {Q : Exit → Act → World → Prop} (hP : PatSt E.rows (Ds.map markD) live n ⟨H, ds', allW⟩ a Hr) (hB : Bun E.rows Ds n0 w0 H Hr w)
    (hk : ∀ a' Hr' w', PatSt E.rows (Ds.map markD) live'' n ⟨H'', [], allW⟩ a' Hr' → Bun E.rows Ds n0 w0 H'' Hr' w' → Q e0.real a' w') : c.wp E.P Q a w :=
  ev_codeS hE nf sel e0 hnd h hP hB fun a' Hr' w' hP' hB' => hk a' Hr' w' (hP'.wk hl hm) (hB'.wk hm)
theorem ev_codeWS (nf : Nat) (sel : List Nat) (e0 : AExit) {c : Code} {live live' live'' : List (Nat × AV)} {n : Nat} {H H' H'' : Mem} {ds ds' : List Bool} {wr wr' : Nat → Bool} (hnd : nodupN sel = true) (hpre : sel.take H.length = List.range H.length) (h : ∀ r, Is (evT E nf (.code c) ⟨pat live r 0 n, ⟨H, ds, wr⟩⟩ (selK sel e0 live' n H'))) (hwl : wkV live' live'') (hwm : wkM H' H'')
    {a : Act} {Hr : List RBlk} {w : World} {Q : Exit → Act → World → Prop} (hP : PatSt E.rows (Ds.map markD) live n ⟨H, ds', wr'⟩ a Hr) (hB : Bun E.rows Ds n0 w0 H Hr w)
    (hk : ∀ a' Hr' w', PatSt E.rows (Ds.map markD) live'' n ⟨H'', [], allW⟩ a' Hr' → Bun E.rows Ds n0 w0 H'' Hr' w' → Stp wr Hr w Hr' w' → Q e0.real a' w') : c.wp E.P Q a w := by
  obtain ⟨r, hR⟩ := hP
  have hl0 : Hr.length = H.length := by obtain ⟨_, _, _, hB0, _⟩ := hR; exact hB0.len
  obtain ⟨e, st', h1, hlo, hs⟩ := ev_sound hE nf (.code c) _ _ (h r).is
  refine wp_mono (hs a Hr w hR hB.own) ?_
  rintro e' a' w' ⟨rfl, Hr', hR', hO', hS⟩
  unfold selK at h1
  simp only [Prod.mk.injEq] at h1
  obtain ⟨he, hn, hl, hH, hd⟩ := h1
  rw [eqE_eq he]
  have hB' := hB.stp hO' hS
  obtain ⟨vs, rfl, ht, hBl, hnod⟩ := hR'
  have hbl := hBl.len
  have hlen : H'.length = sel.length := by have := congrArg List.length hH; simpa using this.symm
  have hat : ∀ i l : Nat, sel[i]? = some l → ∃ p q : AIt, st'.m.H[l]? = some p ∧ renI sel p = some q ∧ H'[i]? = some q := by
    intro i l hi
    have h2 := congrArg (fun z : List (Option AIt) => z[i]?) hH
    simp only [List.getElem?_map, hi, Option.map_some] at h2
    have hi' : i < H'.length := by rw [hlen]; exact (List.getElem?_eq_some_iff.1 hi).1
    rw [List.getElem?_eq_getElem hi', Option.map_some, Option.some.injEq] at h2
    rw [Option.bind_eq_some_iff] at h2
    obtain ⟨p, h3, h4⟩ := h2
    exact ⟨p, _, h3, h4, List.getElem?_eq_getElem hi'⟩
  have hv : ∀ l ∈ sel, l < Hr'.length := fun l hl => by
    obtain ⟨i, hi, hi'⟩ := List.mem_iff_getElem.1 hl
    obtain ⟨p, q, h3, _, _⟩ := hat i l (by rw [List.getElem?_eq_getElem hi, hi'])
    rw [hbl]; exact (List.getElem?_eq_some_iff.1 h3).1
  have hρ := nums_pick (Hr := Hr') hv
  obtain ⟨tl', t1, t2, t3⟩ := lives_ren hρ ht hl
  have hpk := pick_get (Hr := Hr') hv
  have hto : ∀ (i : Nat) jt q, H'[i]? = some jt → (pick sel Hr')[i]? = some q → ∃ l it, sel[i]? = some l ∧ st'.m.H[l]? = some it ∧ renI sel it = some jt ∧ Hr'[l]? = some q := fun i jt q h1 h2 => by
    have hi2 : i < sel.length := by rw [← hlen]; exact (List.getElem?_eq_some_iff.1 h1).1
    obtain ⟨p, q', h3, h4, h5⟩ := hat i sel[i] (List.getElem?_eq_getElem hi2)
    rw [h1] at h5; cases h5
    exact ⟨sel[i], p, List.getElem?_eq_getElem hi2, h3, h4, (hpk i _ (List.getElem?_eq_getElem hi2)).symm.trans h2⟩
  have hBl' : RelB E.rows (nums (pick sel Hr')) H' (pick sel Hr') := by
    refine ⟨by rw [pick_len hv, hlen], fun i jt q h1 h2 => ?_⟩
    obtain ⟨l, it, e1, e2, e3, e4⟩ := hto i jt q h1 h2
    exact RelI.ren hρ e3 (hBl.2 l it q e2 e4)
  have hnod' : Apart H' (pick sel Hr') := by
    have hsn := nodupN_spec hnd
    intro i j it1 jt1 p1 p2 hne h1 h2 l1 l2 q1 q2 z1 z2 hb
    obtain ⟨l, it, e1, e2, e3, e4⟩ := hto i it1 p1 h1 q1
    obtain ⟨m, jt, f1, f2, f3, f4⟩ := hto j jt1 p2 h2 q2
    have hlm : l ≠ m := fun e => by
      subst e
      have hi := (List.getElem?_eq_some_iff.1 e1).1
      exact hne ((List.getElem?_inj hi hsn).1 (e1.trans f1.symm))
    have ho := hnod l m it jt p1 p2 hlm e2 f2 (by rw [← renI_live e3]; exact l1) (by rw [← renI_live f3]; exact l2) e4 f4 z1 z2 hb
    have g1 := renI_owner e3 e1
    have g2 := renI_owner f3 f1
    rw [ho] at g1
    exact (List.getElem?_inj (List.getElem?_eq_some_iff.1 g1).1 hsn).1 (g1.trans g2.symm)
  have hP' : PatSt E.rows (Ds.map markD) live' n ⟨H', [], allW⟩ ⟨vs.toArray, Ds.map markD⟩ (pick sel Hr') :=
    patSt_of (live := live) (st := ⟨tl', ⟨H', [], allW⟩⟩) ⟨vs, rfl, t1, hBl', hnod'⟩ (by rw [t2]; exact hn) t3
  have hsub : ∀ b, b ∈ bs (nums (pick sel Hr')) → b ∈ bs (nums Hr') := fun b hb => by
    rw [mem_bs] at hb ⊢
    obtain ⟨q, hq, e⟩ := hb
    exact ⟨q, nums_pick_mem hq, e⟩
  have hBf : Bun E.rows Ds n0 w0 H' (pick sel Hr') w' := by
   refine ⟨⟨fun i jt q h1 h2 hq => ?_, hB'.own.2.sub hsub⟩, fun D hD => ?_, hB'.nodup, fun b hb hbp => hB'.fresh b (nums_pick_mem hb) hbp, hB'.below, hB'.size⟩
   · obtain ⟨l, it, e1, e2, e3, e4⟩ := hto i jt q h1 h2
     obtain ⟨g1, g2⟩ := hB'.own.1 l it q e2 e4 hq
     exact ⟨g1, fun hlv => g2 (by rw [← renI_live e3]; exact hlv)⟩
   · obtain ⟨q1, q2, q3⟩ := hB'.marks D hD
     exact ⟨q1, fun hm => q2 (hsub _ hm), q3⟩
  exact hk _ _ w' (hP'.wk hwl hwm) (hBf.wk hwm) (stp_sel hnd hv (by rw [hl0]; exact hpre) hS)
omit hE in
theorem ev_loopI {c : Code} (hc : isLp c = true) (I : List RBlk → World → Prop) (N : Nat) (e0 : AExit) (he0 : eqE e0 .normal = false) {n : Nat} (live : Nat → List (Nat × AV)) (H : Nat → Mem) {live' : List (Nat × AV)} {H' : Mem} {Q : Exit → Act → World → Prop}
    (hstep : ∀ k, k < N → ∀ a Hr w (Q' : Exit → Act → World → Prop), PatSt E.rows (Ds.map markD) (live k) n ⟨H k, [], allW⟩ a Hr → Bun E.rows Ds n0 w0 (H k) Hr w → I Hr w → (∀ a' Hr' w', PatSt E.rows (Ds.map markD) (live (k + 1)) n ⟨H (k + 1), [], allW⟩ a' Hr' → Bun E.rows Ds n0 w0 (H (k + 1)) Hr' w' → I Hr' w' → Q' .normal a' w') → (lpB c).wp E.P Q' a w)
    (hlast : ∀ a Hr w (Q' : Exit → Act → World → Prop), PatSt E.rows (Ds.map markD) (live N) n ⟨H N, [], allW⟩ a Hr → Bun E.rows Ds n0 w0 (H N) Hr w → I Hr w → (∀ a' Hr' w', PatSt E.rows (Ds.map markD) live' n ⟨H', [], allW⟩ a' Hr' → Bun E.rows Ds n0 w0 H' Hr' w' → I Hr' w' → Q' e0.real a' w') → (lpB c).wp E.P Q' a w)
    {a : Act} {Hr : List RBlk} {w : World} (hP : PatSt E.rows (Ds.map markD) (live 0) n ⟨H 0, [], allW⟩ a Hr) (hB : Bun E.rows Ds n0 w0 (H 0) Hr w) (hI : I Hr w)
    (hk : ∀ a' Hr' w', PatSt E.rows (Ds.map markD) live' n ⟨H', [], allW⟩ a' Hr' → Bun E.rows Ds n0 w0 H' Hr' w' → I Hr' w' → Q e0.real a' w') : c.wp E.P Q a w := by
  refine wp_lp (N + 1) hc ?_
  have key : ∀ j k, k + j = N → ∀ a Hr w, PatSt E.rows (Ds.map markD) (live k) n ⟨H k, [], allW⟩ a Hr → Bun E.rows Ds n0 w0 (H k) Hr w → I Hr w → Code.rounds E.P (lpB c) Q (j + 1) a w := by
    intro j
    induction j with
    | zero =>
      intro k hkN a Hr w hP hB hI
      obtain rfl : k = N := by omega
      rw [rounds_succ]
      refine hlast a Hr w _ hP hB hI fun a' Hr' w' hP' hB' hI' => ?_
      have := hk a' Hr' w' hP' hB' hI'
      cases e0 <;> first | exact this | (cases he0)
    | succ j ih =>
      intro k hkN a Hr w hP hB hI
      rw [rounds_succ]
      exact hstep k (by omega) a Hr w _ hP hB hI fun a' Hr' w' hP' hB' hI' => ih (k + 1) (by omega) a' Hr' w' hP' hB' hI'
  exact key N 0 (by omega) a Hr w hP hB hI
end
theorem ev_endR {E : Env} (hE : EnvOK E) {live : List (Nat × AV)} {n n0 : Nat} {H : Mem} {ds : List Bool} {wr : Nat → Bool} {vs : List AV} {fn : Func} (h : ∀ rs, resA E.P E.rows H (pat live rs 0 n) fn.results.toList = some vs) {a : Act} {Hr : List RBlk} {w w0 : World} (hP : PatSt E.rows ([].map markD) live n ⟨H, ds, wr⟩ a Hr) (hB : Bun E.rows [] n0 w0 H Hr w) {Q : Ending → World → Prop}
    (hk : ∀ V, Rel E.rows (nums Hr) (oneA vs) V → Q (.returned V) w) {e : Exit} (he : e = .ret ∨ e = .normal) : bodyPostM Fence.wide 0 E.P fn Q e a w := by
  obtain ⟨rs, hR⟩ := hP
  obtain ⟨V, hv, hres⟩ := results_sound hE.rows hR (h rs)
  have hd : a.defers = [] := by obtain ⟨tv, rfl, _⟩ := hR; rfl
  have := leave_marks (P := E.P) (fn := fn) (tmps := a.tmps) (Q := Q) [] w (by simp) (by simp) ⟨V, hres _ hB.own, hk V hv⟩
  rw [List.map_nil, ← hd] at this
  rcases he with rfl | rfl <;> exact this
/-- A call, behind which some labels are kept, told in a weaker way. -/
theorem ev_callW {E : Env} (hE : EnvOK E) (nf : Nat) {f : FuncId} {args : List AV} {H H1 H2 : Mem} {v1 v2 : AV} {ds : List Bool} {wr : Nat → Bool} (sel : List Nat) (hnd : nodupN sel = true) (hpre : sel.take H.length = List.range H.length) (hlen : sel.length = H1.length)
    (h : Is (evCall E nf f args ⟨H, ds, wr⟩ (fun v m => (renA sel v, sel.map fun l => (m.H[l]?).bind (renI sel)) = (some v1, H1.map some)))) (hv : wkA v1 v2) (hm : wkM H1 H2) {Hr : List RBlk} {w : World} {Args : List Value} (hA : RelL E.rows (nums Hr) args Args) (hB : RelB E.rows (nums Hr) H Hr) (hn : Apart H Hr) (hO : OwnK E.rows H Hr w) :
    Calls E.P f Args.toArray w fun e w' => ∃ V Hr', e = .returned V ∧ Rel E.rows (nums Hr') v2 V ∧ RelB E.rows (nums Hr') H2 Hr' ∧ Apart H2 Hr' ∧ OwnK E.rows H2 Hr' w' ∧ Stp wr Hr w Hr' w' := by
  obtain ⟨v, m', hK, hlo, hen, hc⟩ := call_ok hE (ev_sound hE nf) f args _ _ h.is
  obtain ⟨k1, k2⟩ := Prod.mk.injEq .. ▸ hK
  refine (calls_sel sel hnd hpre hB.1 hlen k2 k1 (hc Hr w Args hA hB hn hO)).mono ?_
  rintro e w' ⟨V, Hr', rfl, g1, g2, g3, g4, g5⟩
  obtain ⟨q1, q2⟩ := hm.mem g2 g3
  exact ⟨V, Hr', rfl, hv _ _ _ g1, q1, q2, hm.own g4, g5⟩
/-- Of what a call answers only the first is kept. -/
def junkT : AV → AV
  | .tuple (p :: r) => .tuple (p :: r.map fun _ => .junk)
  | v => v
theorem wkL_junk : ∀ r : List AV, wkL r (r.map fun _ => .junk)
  | [] => trivial
  | _ :: r => ⟨wkA_junk, wkL_junk r⟩
theorem wkA_junkT : ∀ v : AV, wkA v (junkT v) := fun v => by
  unfold junkT
  split
  · exact wkA_tuple ⟨wkA.refl _, wkL_junk _⟩
  · exact wkA.refl _
/-- As ev_callW; the answer is told in a weaker way before labels are dropped. -/
theorem ev_callJ {E : Env} (hE : EnvOK E) (J : AV → AV) (hJ : ∀ v, wkA v (J v)) (nf : Nat) {f : FuncId} {args : List AV} {H H1 H2 : Mem} {v1 v2 : AV} {ds : List Bool} {wr : Nat → Bool} (sel : List Nat) (hnd : nodupN sel = true) (hpre : sel.take H.length = List.range H.length) (hlen : sel.length = H1.length)
    (h : Is (evCall E nf f args ⟨H, ds, wr⟩ (fun v m => (renA sel (J v), sel.map fun l => (m.H[l]?).bind (renI sel)) = (some v1, H1.map some)))) (hv : wkA v1 v2) (hm : wkM H1 H2) {Hr : List RBlk} {w : World} {Args : List Value} (hA : RelL E.rows (nums Hr) args Args) (hB : RelB E.rows (nums Hr) H Hr) (hn : Apart H Hr) (hO : OwnK E.rows H Hr w) :
    Calls E.P f Args.toArray w fun e w' => ∃ V Hr', e = .returned V ∧ Rel E.rows (nums Hr') v2 V ∧ RelB E.rows (nums Hr') H2 Hr' ∧ Apart H2 Hr' ∧ OwnK E.rows H2 Hr' w' ∧ Stp wr Hr w Hr' w' := by
  obtain ⟨v, m', hK, hlo, hen, hc⟩ := call_ok hE (ev_sound hE nf) f args _ _ h.is
  obtain ⟨k1, k2⟩ := Prod.mk.injEq .. ▸ hK
  have hc' := (hc Hr w Args hA hB hn hO).mono (R' := fun e w' => ∃ V Hr', e = .returned V ∧ Rel E.rows (nums Hr') (J v) V ∧ RelB E.rows (nums Hr') m'.H Hr' ∧ Apart m'.H Hr' ∧ OwnK E.rows m'.H Hr' w' ∧ Stp wr Hr w Hr' w') (fun e w' ⟨V, Hr', g0, g1, g2⟩ => ⟨V, Hr', g0, hJ v _ _ _ g1, g2⟩)
  refine (calls_sel sel hnd hpre hB.1 hlen k2 k1 hc').mono ?_
  rintro e w' ⟨V, Hr', rfl, g1, g2, g3, g4, g5⟩
  obtain ⟨q1, q2⟩ := hm.mem g2 g3
  exact ⟨V, Hr', rfl, hv _ _ _ g1, q1, q2, hm.own g4, g5⟩
end Go.Proofs.Ytcfomhnfhalmaaa
