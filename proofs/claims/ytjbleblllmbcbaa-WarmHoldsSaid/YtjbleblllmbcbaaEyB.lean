/- Laws by the evaluator: pieces of code, ranges over functions, the way out. No program of its own. No condition. -/
import Derived.Test.YtjbleblllmbcbaaEyI
import Derived.Test.YtjbleblllmbcbaaEyW
set_option linter.unusedVariables false
set_option linter.unusedSimpArgs false
namespace Go.Proofs.Ytjbleblllmbcbaa
open Go.RowKit
variable {D : List Deferred} {R : Rws}

/-! ### States of which only what is wanted is known. -/
def look (i : Nat) : List (Nat × AV) → Option AV
  | [] => none
  | (j, v) :: r => bif Nat.beq i j then some v else look i r
def pat (live : List (Nat × AV)) (r : Nat → Value) : Nat → Nat → List AV
  | _, 0 => []
  | i, n + 1 => (match look i live with | some v => v | none => .raw (r i)) :: pat live r (i + 1) n
def Lives (tl : List AV) (live : List (Nat × AV)) : Prop := ∀ i v, look i live = some v → tl[i]? = some v
theorem pat_rel {ρ : Nums} {live : List (Nat × AV)} {vs : List Value} : ∀ {tl : List AV} {i : Nat}, RelL R ρ tl (vs.drop i) → (∀ k v, look (i + k) live = some v → tl[k]? = some v) → RelL R ρ (pat live (fun i => vs.getD i undef) i tl.length) (vs.drop i)
  | [], i, h, _ => by
    generalize hd : vs.drop i = d at h
    cases h
    exact .nil
  | c :: cs, i, h, hl => by
    rcases hd : vs.drop i with _ | ⟨v, r⟩
    · rw [hd] at h; cases h
    · rw [hd] at h
      cases h with | cons h hs =>
      have hr : vs.drop (i + 1) = r := by rw [← List.tail_drop, hd]; rfl
      have hv : vs[i]? = some v := by rw [← List.head?_drop, hd]; rfl
      have ih := pat_rel (tl := cs) (i := i + 1) (by rw [hr]; exact hs) (fun k u hu => by have := hl (k + 1) u (by rw [← hu]; congr 1; omega); simpa using this)
      rw [hr] at ih
      refine .cons ?_ ih
      split
      · rename_i u hu
        have := hl 0 u hu
        simp at this
        subst this; exact h
      · have e : vs.getD i undef = v := by simp [List.getD, hv]
        show Rel R ρ (.raw (vs.getD i undef)) v
        rw [e]; exact .raw
theorem pat_of {ρ : Nums} {tl : List AV} {vs : List Value} (h : RelL R ρ tl vs) {live : List (Nat × AV)} (hl : Lives tl live) : ∃ r, RelL R ρ (pat live r 0 tl.length) vs :=
  ⟨_, by simpa using pat_rel (vs := vs) (i := 0) (tl := tl) (by simpa using h) (fun k v hv => hl k v (by simpa using hv))⟩
theorem lives_of {tl : List AV} : ∀ {live : List (Nat × AV)}, live.map (fun p => tl[p.1]?) = live.map (fun p => some p.2) → Lives tl live
  | [], _, i, v, h => by cases h
  | (j, u) :: r, he, i, v, h => by
    simp only [List.map_cons, List.cons.injEq] at he
    unfold look at h
    cases hb : Nat.beq i j <;> simp only [hb, cond_true, cond_false] at h
    · exact lives_of he.2 i v h
    · rw [Nat.eq_of_beq_eq_true hb]; cases h; exact he.1
def PatSt (R : Rws) (D : List Deferred) (live : List (Nat × AV)) (n : Nat) (m : AM) (a : Act) (Hr : List RBlk) : Prop := ∃ r, RelSt R D ⟨pat live r 0 n, m⟩ a Hr
theorem pat_len (live : List (Nat × AV)) (r : Nat → Value) : ∀ i n, (pat live r i n).length = n
  | _, 0 => rfl
  | i, n + 1 => by unfold pat; rw [List.length_cons, pat_len]
theorem patSt_of {live live' : List (Nat × AV)} {n : Nat} {st : ASt} {a : Act} {Hr : List RBlk} (h : RelSt R D st a Hr) (hn : st.tl.length = n) (hl : Lives st.tl live') : PatSt R D live' n st.m a Hr := by
  obtain ⟨vs, rfl, ht, hB, hnd⟩ := h
  subst hn
  obtain ⟨r, hr⟩ := pat_of ht hl
  exact ⟨r, vs, rfl, hr, hB, hnd⟩

/-! ### What is known of the world beside. -/
def markD (D : Nat) : Deferred := { target := .collected D, args := #[] }
structure Bun (R : Rws) (Ds : List Nat) (n0 : Nat) (w0 : World) (H : Mem) (Hr : List RBlk) (w : World) : Prop where
  own : OwnK R H Hr w
  marks : ∀ D ∈ Ds, w.heap[D]? = some (.deferred (some [])) ∧ D ∉ (nums Hr).map (·.b) ∧ n0 ≤ D
  nodup : Ds.Nodup
  fresh : ∀ q ∈ nums Hr, n0 ≤ q.b
  below : Below n0 w0 w
  size : n0 ≤ w.heap.size
theorem Bun.stp {Ds : List Nat} {n0 : Nat} {w0 : World} {H H' : Mem} {Hr Hr' : List RBlk} {w w' : World} {wr : Nat → Bool} (h : Bun R Ds n0 w0 H Hr w) (hO : OwnK R H' Hr' w') (hS : Stp wr Hr w Hr' w') : Bun R Ds n0 w0 H' Hr' w' := by
  obtain ⟨σ, e1, n1⟩ := hS.ext
  have hs := h.size
  have hmem : ∀ {b : Nat}, b ∉ (nums Hr).map (·.b) → b < w.heap.size → b ∉ (nums Hr').map (·.b) := fun {b} h2 hl hm => by
    rw [e1, List.map_append] at hm
    rcases List.mem_append.1 hm with hm | hm
    · exact h2 hm
    · obtain ⟨q, hq, hqb⟩ := List.mem_map.1 hm
      rcases n1 q hq with h4 | ⟨l, p, x1, x2, _⟩
      · omega
      · exact h2 (List.mem_map.2 ⟨p, List.mem_of_getElem? x1, x2.trans hqb⟩)
  refine ⟨hO, fun D hD => ?_, h.nodup, fun q hq => ?_, ?_, Nat.le_trans h.size hS.size⟩
  · obtain ⟨h1, h2, h3⟩ := h.marks D hD
    have hl := (Array.getElem?_eq_some_iff.1 h1).1
    exact ⟨(hS.block D hl (fun l q hl hq => absurd (List.mem_map.2 ⟨q, List.mem_of_getElem? hl, hq⟩) h2)).trans h1, hmem h2 hl, h3⟩
  · rw [e1] at hq
    rcases List.mem_append.1 hq with hq | hq
    · exact h.fresh q hq
    · rcases n1 q hq with h4 | ⟨l, p, x1, x2, _⟩
      · omega
      · rw [← x2]; exact h.fresh p (List.mem_of_getElem? x1)
  · refine h.below.trans ⟨hS.os, hS.tape, hS.output, hS.size, fun k hk => hS.block k (by omega) fun l q hl hq => ?_⟩
    have := h.fresh q (List.mem_of_getElem? hl)
    omega
/-! ### Pieces of code. -/
theorem ev_eq {α : Type} (l : List (Bool × Bool)) (r : α) {p : Prop} (h : p = allE l (r = r)) (hl : AllE l) : Is p := ⟨h ▸ allE_of hl rfl⟩
def isNorm : AExit → Bool
  | .normal => true
  | _ => false
def chK (live : List (Nat × AV)) (n : Nat) (H : Mem) (ds : List Bool) : AExit → ASt → Prop := fun e st =>
  (isNorm e, st.tl.length, live.map (fun p => st.tl[p.1]?), st.m.H, st.m.ds) = (true, n, live.map (fun p => some p.2), H, ds)
/-- What chK says when it is so. -/
abbrev chR (live : List (Nat × AV)) (n : Nat) (H : Mem) (ds : List Bool) : Bool × Nat × List (Option AV) × Mem × List Bool := (true, n, live.map (fun p => some p.2), H, ds)
def evCs (E : Env) (nf : Nat) : List Code → ASt → (AExit → ASt → Prop) → Prop
  | [], st, K => K .normal st
  | c :: cs, st, K => evT E nf (.code c) st fun e st => match e with
    | .normal => evCs E nf cs st K
    | _ => False
def takeSeq : Nat → Code → List Code
  | k + 1, .seq x y => x :: takeSeq k y
  | _, _ => []
def dropSeq : Nat → Code → Code
  | k + 1, .seq _ y => dropSeq k y
  | _, c => c
section
variable {E : Env} (hE : EnvOK E) {Ds : List Nat} {n0 : Nat} {w0 : World}
include hE
theorem evCs_sound (nf : Nat) : ∀ (k : Nat) (c : Code) (st : ASt) (K : AExit → ASt → Prop), evCs E nf (takeSeq k c) st K → ∃ st', K .normal st' ∧ st'.m.wr = st.m.wr ∧ ∀ {D : List Deferred} a Hr w, RelSt E.rows D st a Hr → OwnK E.rows st.m.H Hr w → ∀ Q : Exit → Act → World → Prop,
    (∀ a' Hr' w', RelSt E.rows D st' a' Hr' → OwnK E.rows st'.m.H Hr' w' → Stp st.m.wr Hr w Hr' w' → (dropSeq k c).wp E.P Q a' w') → c.wp E.P Q a w
  | 0, c, st, K, h => by
    cases c <;> exact ⟨st, h, rfl, fun a Hr w hR hO Q hq => hq a Hr w hR hO (.refl _ _ _)⟩
  | k + 1, c, st, K, h => by
    cases c with
    | seq x y =>
      unfold takeSeq evCs at h
      obtain ⟨e, st1, h1, hlo1, h2⟩ := ev_sound hE nf _ _ _ h
      cases e <;> simp only at h1
      obtain ⟨st', hk, hlo, hs⟩ := evCs_sound nf k y st1 K h1
      refine ⟨st', hk, hlo.trans hlo1, fun a Hr w hR hO Q hq => wp_seq (wp_mono (h2 a Hr w hR hO) ?_)⟩
      rintro e' a1 w1 ⟨rfl, Hr1, hR1, hO1, hS1⟩
      refine hs a1 Hr1 w1 hR1 hO1 Q fun a' Hr' w' hR' hO' hS' => ?_
      rw [hlo1] at hS'
      exact hq a' Hr' w' hR' hO' (hS1.trans hS')
    | _ => exact ⟨st, h, rfl, fun a Hr w hR hO Q hq => hq a Hr w hR hO (.refl _ _ _)⟩
/-- So many statements, one behind the other. -/
theorem ev_seqs (nf k : Nat) {c : Code} {live live' : List (Nat × AV)} {n : Nat} {m : AM} {H' : Mem} {ds' : List Bool} (h : ∀ r, Is (evCs E nf (takeSeq k c) ⟨pat live r 0 n, m⟩ (chK live' n H' ds')))
    {a : Act} {Hr : List RBlk} {w : World} {Q : Exit → Act → World → Prop} (hP : PatSt E.rows D live n m a Hr) (hB : Bun E.rows Ds n0 w0 m.H Hr w)
    (hk : ∀ a' Hr' w', PatSt E.rows D live' n ⟨H', ds', m.wr⟩ a' Hr' → Bun E.rows Ds n0 w0 H' Hr' w' → Stp m.wr Hr w Hr' w' → (dropSeq k c).wp E.P Q a' w') : c.wp E.P Q a w := by
  obtain ⟨r, hR⟩ := hP
  obtain ⟨st', h1, hlo, h2⟩ := evCs_sound hE nf k c _ _ (h r).is
  refine h2 a Hr w hR hB.own Q fun a' Hr' w' hR' hO' hS => ?_
  unfold chK at h1
  simp only [Prod.mk.injEq] at h1
  obtain ⟨_, hn, hl, rfl, rfl⟩ := h1
  have hP' := patSt_of (live := live) hR' hn (lives_of hl)
  have hm : st'.m = ⟨st'.m.H, st'.m.ds, m.wr⟩ := by rw [← hlo]
  rw [hm] at hP'
  exact hk a' Hr' w' hP' (hB.stp hO' hS) hS
end
/-! ### The way in and out. -/
def inLive : Nat → List AV → List (Nat × AV)
  | _, [] => []
  | i, v :: r => (i, v) :: inLive (i + 1) r
theorem look_in {l : List AV} : ∀ {i k : Nat} {v : AV}, look k (inLive i l) = some v → i ≤ k ∧ l[k - i]? = some v := by
  induction l with
  | nil => intro i k v h; cases h
  | cons c r ih =>
    intro i k v h
    unfold inLive look at h
    cases hb : Nat.beq k i <;> simp only [hb, cond_true, cond_false] at h
    · have := ih h
      refine ⟨by omega, ?_⟩
      rw [show k - i = (k - (i + 1)) + 1 by omega]
      simpa using this.2
    · rw [Nat.eq_of_beq_eq_true hb]; cases h; simp
theorem ev_enter {E : Env} {f : FuncId} {fn : Func} {c : Code} (hf : E.P.funcs[f]? = some fn) (hb : fn.body = some c) {args : List AV} {Args : List Value} (hn : args.length ≤ fn.ntmps) (ha : RelL E.rows [] args Args) {w : World} (hd : Rd E.rows [] w) {ds : List Bool} {wr : Nat → Bool} {Q : Ending → World → Prop}
    (h : ∀ a, PatSt E.rows ([].map markD) (inLive 0 args) fn.ntmps ⟨[], ds, wr⟩ a [] → Bun E.rows [] w.heap.size w [] [] w → c.wp E.P (bodyPostM Fence.wide 0 E.P fn Q) a w) : Calls E.P f Args.toArray w Q := by
  refine calls_marks hf hb (h _ ?_ ⟨⟨OwnM.nil _, hd⟩, by simp, by simp, by simp [nums], Below.refl _ _, Nat.le_refl _⟩)
  have hl := ha.len
  have hR : RelSt E.rows [] ⟨args ++ List.replicate (fn.ntmps - args.length) undefA, ⟨[], ds, wr⟩⟩ ⟨Args.toArray ++ Array.replicate (fn.ntmps - Args.toArray.size) undef, []⟩ [] := by
    refine ⟨Args ++ List.replicate (fn.ntmps - args.length) undef, ?_, ha.append (RelL.rep .raw _), .nil, Apart.nil⟩
    congr 1
    apply Array.toList_inj.1
    simp [hl]
  exact patSt_of (live := []) hR (by simp; omega) (fun i v hv => by
    obtain ⟨_, h2⟩ := look_in hv
    simp only [Nat.sub_zero] at h2
    rw [List.getElem?_append_left (List.getElem?_eq_some_iff.1 h2).1]; exact h2)
def putsD : List Nat → World → World
  | [], w => w
  | D :: Ds, w => putsD Ds (w.putObj D (.deferred none))
theorem leave_marks {P : Program} {fn : Func} {tmps : Array Value} {Q : Ending → World → Prop} : ∀ (Ds : List Nat) (w : World), (∀ D ∈ Ds, w.heap[D]? = some (.deferred (some []))) → Ds.Nodup →
    (∃ v, (results fn tmps).run P (putsD Ds w) = .ok v (putsD Ds w) ∧ Q (.returned v) (putsD Ds w)) → LeavesInM Fence.wide 0 P fn tmps Q (Ds.map markD) .returning w
  | [], w, _, _, h => h
  | D :: Ds, w, hD, hn, h => by
    have hn' := List.nodup_cons.1 hn
    refine ⟨by simp, .inl ⟨_, _, rfl, run_takeDeferred (hD D (by simp)), ?_⟩⟩
    refine leave_marks Ds (w.putObj D (.deferred none)) (fun E hE => ?_) hn'.2 h
    exact (World.putObj_heap_other (by intro e; subst e; exact hn'.1 hE)).trans (hD E (by simp [hE]))
theorem own_putsD {H : Mem} {Hr : List RBlk} : ∀ (Ds : List Nat) {w : World}, (∀ D ∈ Ds, D ∉ (nums Hr).map (·.b)) → OwnM H Hr w → OwnM H Hr (putsD Ds w)
  | [], _, _, h => h
  | D :: Ds, w, hD, h => own_putsD Ds (fun E hE => hD E (by simp [hE])) (fun l it p h1 h2 => by
    obtain ⟨x1, x2⟩ := h l it p h1 h2
    have hne : p.b ≠ D := fun e => hD D (by simp) (by rw [← e]; exact List.mem_map.2 ⟨p.num, List.mem_of_getElem? (nums_get h2), rfl⟩)
    exact ⟨by simpa [World.putObj] using x1, fun hl => (World.putObj_heap_other hne).trans (x2 hl)⟩)
theorem below_putsD {n : Nat} {w0 : World} : ∀ (Ds : List Nat) {w : World}, (∀ D ∈ Ds, n ≤ D) → Below n w0 w → Below n w0 (putsD Ds w)
  | [], _, _, h => h
  | D :: Ds, w, hD, h => below_putsD Ds (fun E hE => hD E (by simp [hE])) (Below.put h _ (hD D (by simp)))
/-- Rows lie apart from marks: they are below, or kept. -/
theorem rd_putsD {nb : List Nat} : ∀ (Ds : List Nat) {w : World}, (∀ D ∈ Ds, w.heap[D]? = some (.deferred (some []))) → Ds.Nodup → RwOK R → Rd R nb w → (∀ j r, R j = some r → 0 < r.n → 0 < (r.V 0).length) → Rd R nb (putsD Ds w)
  | [], _, _, _, _, h, _ => h
  | D :: Ds, w, hD, hn, hR, h, hp => by
    have hn' := List.nodup_cons.1 hn
    refine rd_putsD Ds (fun E hE => (World.putObj_heap_other (by intro e; subst e; exact hn'.1 hE)).trans (hD E (by simp [hE]))) hn'.2 hR (fun j r hj b off ha h0 => ?_) hp
    obtain ⟨h1, h2, h3⟩ := h j r hj b off ha h0
    have hne : b ≠ D := by
      intro e; subst e
      have hl := hp j r hj h0
      have hc := h3 0 h0 0 ((r.V 0)[0]) (by simp [hl])
      have := hD b (by simp)
      simp [World.cell?, this] at hc
    have hbk : (w.putObj D (.deferred none)).heap[b]? = w.heap[b]? := World.putObj_heap_other hne
    exact ⟨h1, by simpa [World.putObj] using h2, fun i hi q u hu => (World.cell?_of_block (a := ⟨b, off + i * r.s + q, none⟩) hbk).trans (h3 i hi q u hu)⟩
def retK (E : Env) (fn : Func) (r : AV) : AExit → ASt → Prop
  | .ret, st | .normal, st => resA E.P E.rows st.m.H st.tl fn.results.toList = some [r]
  | _, _ => False
/-- The rest of a function. -/
theorem ev_rest {E : Env} (hE : EnvOK E) (nf : Nat) {c : Code} {live : List (Nat × AV)} {n : Nat} {m : AM} {r : AV} {V : Value} {fn : Func} (h : ∀ rs, Is (evT E nf (.code c) ⟨pat live rs 0 n, m⟩ (retK E fn r))) (hV : r.told? = some V)
    (hp : ∀ j r, E.rows j = some r → 0 < r.n → 0 < (r.V 0).length)
    {a : Act} {Hr : List RBlk} {w w0 : World} {Ds : List Nat} {n0 : Nat} (hP : PatSt E.rows (Ds.map markD) live n m a Hr) (hB : Bun E.rows Ds n0 w0 m.H Hr w) :
    c.wp E.P (bodyPostM Fence.wide 0 E.P fn (fun e w' => e = .returned V ∧ Below n0 w0 w')) a w := by
  obtain ⟨rs, hR⟩ := hP
  obtain ⟨e, st', hk, hlo, hs⟩ := ev_sound hE nf (.code c) _ _ (h rs).is
  refine wp_mono (hs a Hr w hR hB.own) ?_
  rintro e' a' w' ⟨rfl, Hr', hR', hO', hS⟩
  have hB' := hB.stp hO' hS
  have key : ∀ {e' : Exit}, (e' = .ret ∨ e' = .normal) → resA E.P E.rows st'.m.H st'.tl fn.results.toList = some [r] → bodyPostM Fence.wide 0 E.P fn (fun e w' => e = .returned V ∧ Below n0 w0 w') e' a' w' := by
    intro e' he hvs
    have hd : a'.defers = Ds.map markD := by obtain ⟨tv, rfl, _⟩ := hR'; rfl
    obtain ⟨V', hv, hres⟩ := results_sound hE.rows hR' hvs
    have hVV : V' = V := hv.told hV
    subst hVV
    have := leave_marks (P := E.P) (fn := fn) (tmps := a'.tmps) (Q := fun e w' => e = .returned V' ∧ Below n0 w0 w') Ds w' (fun D hD => (hB'.marks D hD).1) hB'.nodup
      ⟨V', hres _ ⟨own_putsD Ds (fun D hD => (hB'.marks D hD).2.1) hO'.1, rd_putsD Ds (fun D hD => (hB'.marks D hD).1) hB'.nodup hE.rows hO'.2 hp⟩, rfl, below_putsD Ds (fun D hD => (hB'.marks D hD).2.2) hB'.below⟩
    rw [← hd] at this
    rcases he with rfl | rfl <;> exact this
  cases e <;> simp only [retK] at hk
  · exact key (.inr rfl) hk
  · exact key (.inl rfl) hk
end Go.Proofs.Ytjbleblllmbcbaa
