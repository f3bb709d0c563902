/- Maps that are gone over, by the evaluator. No program of its own. No condition. -/
import Derived.Test.YtjbleblllmbcbaaEyT
import Derived.Maps.RangeRun
set_option linter.unusedVariables false
set_option linter.unusedSimpArgs false
namespace Go.Proofs.Ytjbleblllmbcbaa
open Go.RowKit
open Go.ChangeMaps (setBlock)
variable {D : List Deferred} {R : Rws}
theorem pat_get {live : List (Nat × AV)} {r : Nat → Value} {n i : Nat} {u : AV} (hu : look i live = some u) (hin : i < n) : (pat live r 0 n)[i]? = some u := by
  have key : ∀ (k i0 : Nat), i0 ≤ i → i < i0 + k → (pat live r i0 k)[i - i0]? = some u := by
    intro k
    induction k with
    | zero => intro i0 h1 h2; omega
    | succ k ih =>
      intro i0 h1 h2
      unfold pat
      by_cases hi : i = i0
      · subst hi; simp [hu]
      · rw [show i - i0 = (i - (i0 + 1)) + 1 by omega]
        simpa using ih (i0 + 1) (by omega) (by omega)
  simpa using key n 0 (Nat.zero_le _) (by omega)
theorem patSt_live {live live' : List (Nat × AV)} {n : Nat} {m : AM} {a : Act} {Hr : List RBlk} (hP : PatSt R D live n m a Hr) (hlv : ∀ i v, look i live' = some v → look i live = some v) (hkeys : live'.all (fun p => Nat.blt p.1 n) = true) : PatSt R D live' n m a Hr := by
  obtain ⟨r, hR⟩ := hP
  exact patSt_of (live := live) hR (pat_len _ _ _ _) fun i v hv => pat_get (hlv i v hv) (look_lt hkeys hv)
theorem looks_of {live : List (Nat × AV)} : ∀ {live' : List (Nat × AV)}, live'.map (fun p => look p.1 live) = live'.map (fun p => some p.2) → ∀ i v, look i live' = some v → look i live = some v
  | [], _, i, v, h => by cases h
  | (j, u) :: r, he, i, v, h => by
    simp only [List.map_cons, List.cons.injEq] at he
    unfold look at h
    cases hb : Nat.beq i j <;> simp only [hb, cond_true, cond_false] at h
    · exact looks_of he.2 i v h
    · rw [Nat.eq_of_beq_eq_true hb]; cases h; exact he.1
/-- A variable gets a value. -/
theorem patSt_put {live : List (Nat × AV)} {n d : Nat} {m : AM} {a : Act} {Hr : List RBlk} (hP : PatSt R D live n m a Hr) (hkeys : live.all (fun p => Nat.blt p.1 n) = true) (hd : d < n) {v : AV} {V : Value} (hv : Rel R (nums Hr) v V) : PatSt R D ((d, v) :: live) n m (a.put (some d) V) Hr := by
  obtain ⟨r, vs, rfl, ht, hB, hA⟩ := hP
  have hl := ht.len
  rw [pat_len] at hl
  refine patSt_of (live := live) (st := ⟨(pat live r 0 n).set d v, m⟩) ⟨vs.set d V, by simp [Act.put], ht.set hv, hB, hA⟩ (by simp [pat_len]) (fun i u hu => ?_)
  unfold look at hu
  cases hb' : Nat.beq i d <;> simp only [hb', cond_true, cond_false] at hu
  · have hne : i ≠ d := Nat.ne_of_beq_eq_false hb'
    rw [List.getElem?_set_ne (Ne.symm hne)]
    by_cases hin : i < n
    · exact pat_get hu hin
    · exact absurd (look_lt hkeys hu) hin
  · rw [Nat.eq_of_beq_eq_true hb']; cases hu
    rw [List.getElem?_set_self (by rw [pat_len]; exact hd)]
theorem look_all {f : AV → Bool} : ∀ {live : List (Nat × AV)}, live.all (fun p => f p.2) = true → ∀ i u, look i live = some u → f u = true
  | [], _, i, u, h => by cases h
  | p :: q, hb, i, u, h => by
    rw [List.all_cons, Bool.and_eq_true] at hb
    unfold look at h
    cases hbe : Nat.beq i p.1 <;> simp only [hbe, cond_true, cond_false] at h
    · exact look_all hb.2 i u h
    · cases h; exact hb.1
/-- Labels behind these are forgotten. -/
theorem patSt_trim {live : List (Nat × AV)} {n : Nat} {H T : Mem} {ds ds' : List Bool} {wr wr' : Nat → Bool} {a : Act} {Hr : List RBlk} (hP : PatSt R D live n ⟨H ++ T, ds, wr⟩ a Hr) (hb : live.all (fun p => bddA H.length p.2) = true) (hH : bddH H.length H = true) : PatSt R D live n ⟨H, ds', wr'⟩ a (Hr.take H.length) := by
  obtain ⟨r, vs, rfl, ht, hB, hA⟩ := hP
  have hlen : Hr.length = H.length + T.length := by rw [hB.len]; simp
  have hnt : nums (Hr.take H.length) = (nums Hr).take H.length := by simp [nums]
  have hsp : nums Hr = nums (Hr.take H.length) ++ (nums Hr).drop H.length := by rw [hnt, List.take_append_drop]
  have hnl : (nums (Hr.take H.length)).length = H.length := by simp [nums]; omega
  refine ⟨r, vs, rfl, ?_, ?_, ?_⟩
  · rw [hsp] at ht
    refine RelL.shrink ?_ ht
    rw [hnl]
    have hlk : ∀ i u, look i live = some u → bddA H.length u = true := look_all hb
    have : ∀ k i, bddL H.length (pat live r i k) = true := by
      intro k
      induction k with
      | zero => intro i; rfl
      | succ k ih =>
        intro i
        unfold pat bddL
        rw [Bool.and_eq_true]
        refine ⟨?_, ih _⟩
        split
        · rename_i u hu; exact hlk i u hu
        · rfl
    exact this n 0
  · have h1 := hB.take H.length
    rw [List.take_left] at h1
    rw [hsp] at h1
    exact h1.shrink (by rw [hnl]; exact hH)
  · intro l k it jt p q hne h1 h2 v1 v2 q1 q2 hbb
    rw [List.getElem?_take] at q1 q2
    split at q1
    · split at q2
      · exact hA l k it jt p q hne (getElem?_append_some h1) (getElem?_append_some h2) v1 v2 q1 q2 hbb
      · cases q2
    · cases q1
theorem bun_trim {Ds : List Nat} {n0 : Nat} {w0 : World} {H T : Mem} {Hr : List RBlk} {w : World} (h : Bun R Ds n0 w0 (H ++ T) Hr w) : Bun R Ds n0 w0 H (Hr.take H.length) w := by
  have hsub : ∀ q, q ∈ nums (Hr.take H.length) → q ∈ nums Hr := fun q hq => by
    simp only [nums, List.map_take] at hq
    exact List.mem_of_mem_take hq
  have hsb : ∀ b, b ∈ (nums (Hr.take H.length)).map (·.b) → b ∈ (nums Hr).map (·.b) := fun b hb => by
    rw [List.mem_map] at hb ⊢
    obtain ⟨q, hq, e⟩ := hb
    exact ⟨q, hsub q hq, e⟩
  refine ⟨⟨fun l it p h1 h2 => ?_, h.own.2.sub hsb⟩, fun D hD => ?_, h.nodup, fun q hq => h.fresh q (hsub q hq), h.below, h.size⟩
  · rw [List.getElem?_take] at h2
    split at h2
    · exact h.own.1 l it p (getElem?_append_some h1) h2
    · cases h2
  · obtain ⟨q1, q2, q3⟩ := h.marks D hD
    exact ⟨q1, fun hm => q2 (hsb _ hm), q3⟩
/-! ### What has been gone over. -/
abbrev Ent := List Int × List Value
def keyA : List IntKind → List Int → List AV
  | [], _ => []
  | k :: ks, ns => .int k false (ns.headD 0) :: keyA ks ns.tail
/-- A key's numbers, one by one. -/
def spell : List IntKind → List Int → List Int
  | [], _ => []
  | _ :: ks, ns => ns.headD 0 :: spell ks ns.tail
theorem spell_eq : ∀ {ks : List IntKind} {ns : List Int}, ns.length = ks.length → spell ks ns = ns
  | [], [], _ => rfl
  | [], _ :: _, h => by cases h
  | _ :: _, [], h => by cases h
  | k :: ks, n :: ns, h => by
    unfold spell
    rw [List.headD_cons, List.tail_cons, spell_eq (by simpa using h)]
theorem keyA_rel {ρ : Nums} : ∀ {ks : List IntKind} {ns : List Int}, ns.length = ks.length → RelL R ρ (keyA ks ns) (cellsK ks ns)
  | [], [], _ => .nil
  | [], _ :: _, h => by cases h
  | _ :: _, [], h => by cases h
  | k :: ks, n :: ns, h => .cons .int (keyA_rel (by simpa using h))
structure SeenOK (es : Array MapEntry) (E : List Ent) (seen : Array Nat) (vis : List Ent) : Prop where
  nodup : vis.Nodup
  sub : ∀ p ∈ vis, p ∈ E
  at_ : ∀ (i : Nat) x p, es.toList[i]? = some x → E[i]? = some p → (seen.contains x.born = true ↔ p ∈ vis)
theorem nodup_len {α : Type} : ∀ {l m : List α}, l.Nodup → (∀ x ∈ l, x ∈ m) → l.length ≤ m.length
  | [], m, _, _ => Nat.zero_le _
  | a :: l, m, hn, hs => by
    obtain ⟨h1, h2⟩ := List.nodup_cons.1 hn
    obtain ⟨m1, m2, rfl⟩ := List.append_of_mem (hs a (List.mem_cons_self ..))
    have := nodup_len (m := m1 ++ m2) h2 fun x hx => by
      have h3 := hs x (List.mem_cons_of_mem _ hx)
      rw [List.mem_append, List.mem_cons] at h3
      rw [List.mem_append]
      rcases h3 with h3 | rfl | h3
      · exact .inl h3
      · exact absurd hx h1
      · exact .inr h3
    simp at this ⊢; omega
/-- A map that is gone over: it lies at label lm, what goes over it at label L; these entries have come. -/
structure MRun (R : Rws) (Ds : List Nat) (n0 : Nat) (w0 : World) (wr : Nat → Bool) (L lm : Nat) (m : MapI) (live : List (Nat × AV)) (n : Nat) (H : Mem) (ds : List Bool) (cur : Option Ent) (vis : List Ent) (a : Act) (Hr : List RBlk) (w : World) : Prop where
  pat : PatSt R (Ds.map markD) live n ⟨H, ds, wr⟩ a Hr
  bun : Bun R Ds n0 w0 H Hr w
  hm : H[lm]? = some (.map m)
  hg : H[L]? = some .gone
  wl : wr L = false
  run : ∃ b s es clock q seen c0, Hr[lm]? = some ⟨b, s, .map es clock⟩ ∧ (nums Hr)[L]? = some q ∧ MapOK m es clock ∧ w.heap[q.b]? = some (.mapIter (some b) clock seen c0) ∧ clock ≤ c0 ∧ SeenOK es m.E seen vis ∧
    (∀ (l : Nat) q', (nums Hr)[l]? = some q' → q'.b = q.b → l = L) ∧ (∀ (l : Nat) q', (nums Hr)[l]? = some q' → q'.b = b → wr l = false) ∧
    ∀ p, cur = some p → c0 = clock ∧ ∃ (i : Nat) (seen' : Array Nat) (x : MapEntry), seen = seen'.push x.born ∧ es.toList[i]? = some x ∧ m.E[i]? = some p
section
variable {Ds : List Nat} {n0 : Nat} {w0 : World} {wr : Nat → Bool} {L lm : Nat} {m : MapI} {live live' : List (Nat × AV)} {n : Nat} {H H' : Mem} {ds ds' : List Bool} {cur : Option Ent} {vis : List Ent} {a a' : Act} {Hr Hr' : List RBlk} {w w' : World}
/-- It stays so whatever is done. -/
theorem MRun.step (h : MRun R Ds n0 w0 wr L lm m live n H ds cur vis a Hr w) (hP : PatSt R (Ds.map markD) live' n ⟨H', ds', wr⟩ a' Hr') (hB : Bun R Ds n0 w0 H' Hr' w') (hS : Stp wr Hr w Hr' w') (hm : H'[lm]? = some (.map m)) (hg : H'[L]? = some .gone) : MRun R Ds n0 w0 wr L lm m live' n H' ds' cur vis a' Hr' w' := by
  obtain ⟨b, s, es, clock, q, seen, c0, r1, r2, r3, r4, r5, r6, r7, r8, r9⟩ := h.run
  obtain ⟨σ, e1, n1⟩ := hS.ext
  have hrel := hP
  obtain ⟨_, _, _, _, hBl, _⟩ := hrel
  obtain ⟨b', s', es', clock', f1, f2⟩ := hBl.getM hm
  have hq : q.b < w.heap.size := (Array.getElem?_eq_some_iff.1 r4).1
  have hbw := (h.bun.own.1 lm _ _ h.hm r1).2 rfl
  have hb : b < w.heap.size := (h.bun.own.1 lm _ _ h.hm r1).1
  have hnb : b' = b := by
    have g1 := nums_get f1
    rw [e1, getElem?_append_some (nums_get r1)] at g1
    exact (congrArg Num.b (Option.some.inj g1)).symm
  subst hnb
  have hkb := hS.block b' hb fun l q' hl hqb => r8 l q' hl hqb
  have hbw' := (hB.own.1 lm _ _ hm f1).2 rfl
  have hes : Obj.map es' clock' = Obj.map es clock := by
    have h1 : w'.heap[b']? = some (.map es' clock') := hbw'
    have h2 : w.heap[b']? = some (.map es clock) := hbw
    rw [hkb, h2] at h1
    exact (Option.some.inj h1).symm
  cases hes
  have hkr := hS.block q.b hq fun l q' hl hqb => by rw [r7 l q' hl hqb]; exact h.wl
  refine ⟨hP, hB, hm, hg, h.wl, b', s', es, clock, q, seen, c0, f1, by rw [e1]; exact getElem?_append_some r2, f2, hkr.trans r4, r5, r6, fun l q' hl hqb => ?_, fun l q' hl hqb => ?_, r9⟩
  · rw [e1] at hl
    rcases Nat.lt_or_ge l (nums Hr).length with hlt | hge
    · rw [List.getElem?_append_left hlt] at hl; exact r7 l q' hl hqb
    · rw [List.getElem?_append_right hge] at hl
      rcases n1 q' (List.mem_of_getElem? hl) with h4 | ⟨l2, p, x1, x2, x3⟩
      · omega
      · have := r7 l2 p x1 (x2.trans hqb)
        rw [this, h.wl] at x3; cases x3
  · rw [e1] at hl
    rcases Nat.lt_or_ge l (nums Hr).length with hlt | hge
    · rw [List.getElem?_append_left hlt] at hl; exact r8 l q' hl hqb
    · rw [List.getElem?_append_right hge] at hl
      rcases n1 q' (List.mem_of_getElem? hl) with h4 | ⟨l2, p, x1, x2, x3⟩
      · omega
      · rw [r8 l2 p x1 (x2.trans hqb)] at x3; cases x3
theorem MRun.trim {T : Mem} (h : MRun R Ds n0 w0 wr L lm m live n (H ++ T) ds cur vis a Hr w) (hb : live'.all (fun p => bddA H.length p.2) = true) (hlv : live'.map (fun p => look p.1 live) = live'.map (fun p => some p.2)) (hkeys : live'.all (fun p => Nat.blt p.1 n) = true) (hH : bddH H.length H = true) (hL : L < H.length) (hlm : lm < H.length) : MRun R Ds n0 w0 wr L lm m live' n H ds' none vis a (Hr.take H.length) w := by
  obtain ⟨b, s, es, clock, q, seen, c0, r1, r2, r3, r4, r5, r6, r7, r8, r9⟩ := h.run
  have hm := h.hm
  have hg := h.hg
  rw [List.getElem?_append_left hlm] at hm
  rw [List.getElem?_append_left hL] at hg
  have hP := patSt_live h.pat (looks_of hlv) hkeys
  have hnt : ∀ l q', (nums (Hr.take H.length))[l]? = some q' → (nums Hr)[l]? = some q' := fun l q' hl => by
    simp only [nums, List.map_take] at hl
    rw [List.getElem?_take] at hl
    split at hl
    · exact hl
    · cases hl
  refine ⟨patSt_trim hP hb hH, bun_trim h.bun, hm, hg, h.wl, b, s, es, clock, q, seen, c0, ?_, ?_, r3, r4, r5, r6, fun l q' hl => r7 l q' (hnt l q' hl), fun l q' hl => r8 l q' (hnt l q' hl), fun p hp => by cases hp⟩
  · rw [List.getElem?_take, if_pos hlm]; exact r1
  · simp only [nums, List.map_take]
    rw [List.getElem?_take, if_pos hL]; exact r2
theorem MRun.sel (h : MRun R Ds n0 w0 wr L lm m live n H ds cur vis a Hr w) (hlv : live'.map (fun p => look p.1 live) = live'.map (fun p => some p.2)) (hkeys : live'.all (fun p => Nat.blt p.1 n) = true) : MRun R Ds n0 w0 wr L lm m live' n H ds cur vis a Hr w := ⟨patSt_live h.pat (looks_of hlv) hkeys, h.bun, h.hm, h.hg, h.wl, h.run⟩
theorem MRun.free (h : MRun R Ds n0 w0 wr L lm m live n H ds cur vis a Hr w) : MRun R Ds n0 w0 wr L lm m live n H ds none vis a Hr w := by
  obtain ⟨b, s, es, clock, q, seen, c0, r1, r2, r3, r4, r5, r6, r7, r8, r9⟩ := h.run
  exact ⟨h.pat, h.bun, h.hm, h.hg, h.wl, b, s, es, clock, q, seen, c0, r1, r2, r3, r4, r5, r6, r7, r8, fun p hp => by cases hp⟩
theorem MRun.len (h : MRun R Ds n0 w0 wr L lm m live n H ds cur vis a Hr w) : vis.length ≤ m.E.length := by
  obtain ⟨b, s, es, clock, q, seen, c0, r1, r2, r3, r4, r5, r6, r7, r8, r9⟩ := h.run
  exact nodup_len r6.nodup r6.sub
theorem ent_at {es : Array MapEntry} {clock : Nat} (h : MapOK m es clock) {i : Nat} {x : MapEntry} (hx : es.toList[i]? = some x) : ∃ p, m.E[i]? = some p ∧ x.key = keyV m.ks p.1 ∧ x.val = valV m.g p.2 := by
  have := congrArg (fun l : List (Value × Value) => l[i]?) h.ent
  simp only [List.getElem?_map, hx, Option.map_some] at this
  rcases hp : m.E[i]? with _ | p
  · rw [hp] at this; cases this
  · rw [hp] at this
    simp only [Option.map_some, Option.some.injEq, Prod.mk.injEq] at this
    exact ⟨p, rfl, this.1, this.2⟩
theorem at_ent {es : Array MapEntry} {clock : Nat} (h : MapOK m es clock) {i : Nat} {p : Ent} (hp : m.E[i]? = some p) : ∃ x, es.toList[i]? = some x := by
  have hlen : es.toList.length = m.E.length := by have := congrArg List.length h.ent; simpa using this
  exact ⟨_, List.getElem?_eq_getElem (by rw [hlen]; exact (List.getElem?_eq_some_iff.1 hp).1)⟩
theorem born_inj {es : Array MapEntry} {clock : Nat} (h : MapOK m es clock) {i j : Nat} {x y : MapEntry} (hx : es.toList[i]? = some x) (hy : es.toList[j]? = some y) (hb : x.born = y.born) : i = j := by
  rcases Nat.lt_trichotomy i j with hij | hij | hij
  · have := List.pairwise_iff_getElem.1 h.born i j (List.getElem?_eq_some_iff.1 hx).1 (List.getElem?_eq_some_iff.1 hy).1 hij
    rw [(List.getElem?_eq_some_iff.1 hx).2, (List.getElem?_eq_some_iff.1 hy).2] at this
    omega
  · exact hij
  · have := List.pairwise_iff_getElem.1 h.born j i (List.getElem?_eq_some_iff.1 hy).1 (List.getElem?_eq_some_iff.1 hx).1 hij
    rw [(List.getElem?_eq_some_iff.1 hx).2, (List.getElem?_eq_some_iff.1 hy).2] at this
    omega
theorem ent_inj {es : Array MapEntry} {clock : Nat} (h : MapOK m es clock) {i j : Nat} {p q : Ent} (hp : m.E[i]? = some p) (hq : m.E[j]? = some q) (he : p = q) : i = j := by
  rcases Nat.lt_trichotomy i j with hij | hij | hij
  · have := List.pairwise_iff_getElem.1 h.nodup i j (List.getElem?_eq_some_iff.1 hp).1 (List.getElem?_eq_some_iff.1 hq).1 hij
    rw [(List.getElem?_eq_some_iff.1 hp).2, (List.getElem?_eq_some_iff.1 hq).2] at this
    exact absurd (congrArg Prod.fst he) this
  · exact hij
  · have := List.pairwise_iff_getElem.1 h.nodup j i (List.getElem?_eq_some_iff.1 hq).1 (List.getElem?_eq_some_iff.1 hp).1 hij
    rw [(List.getElem?_eq_some_iff.1 hp).2, (List.getElem?_eq_some_iff.1 hq).2] at this
    exact absurd (congrArg Prod.fst he).symm this
theorem seen_push {es : Array MapEntry} {clock : Nat} {seen : Array Nat} (h : MapOK m es clock) (hs : SeenOK es m.E seen vis) {i : Nat} {x : MapEntry} {p : Ent} (hx : es.toList[i]? = some x) (hp : m.E[i]? = some p) (hn : p ∉ vis) : SeenOK es m.E (seen.push x.born) (vis ++ [p]) := by
  refine ⟨?_, fun q hq => ?_, fun j y q hy hq => ?_⟩
  · rw [List.nodup_append]
    exact ⟨hs.nodup, List.nodup_cons.2 ⟨by simp, List.nodup_nil⟩, fun u hu v hv e => by rw [List.mem_singleton.1 hv] at e; rw [e] at hu; exact hn hu⟩
  · rcases List.mem_append.1 hq with hq | hq
    · exact hs.sub q hq
    · rw [List.mem_singleton.1 hq]; exact List.mem_of_getElem? hp
  · have h1 := hs.at_ j y q hy hq
    rw [Array.contains_iff_mem] at h1 ⊢
    rw [Array.mem_push, List.mem_append, List.mem_singleton, h1]
    constructor
    · rintro (h2 | h2)
      · exact .inl h2
      · have := born_inj h hy hx h2
        subst this
        rw [hp] at hq; exact .inr (Option.some.inj hq).symm
    · rintro (h2 | h2)
      · exact .inl h2
      · have := ent_inj h hq hp h2
        subst this
        rw [hx] at hy; exact .inr (congrArg MapEntry.born (Option.some.inj hy)).symm
theorem atR_op {P : Program} {o : Oper} {a : Act} {w w' : World} {V : Value} {ops : Array Oper} {rest : List Oper} {Q : Exit → Act → World → Prop} (hg : o.guard = none) (hr : (execOp a.eval o).run P w = .ok (.value V) w') (hk : wpList P ops Q rest (a.put o.dst V) w') : wpList P ops Q (o :: rest) a w := by
  apply wpList_step
  intro Kn hKn
  rw [if_pos (by simp [Region.wanted, hg])]
  unfold Oper.wp
  rw [hr]
  exact hKn _ _ hk
def rngOf : List Oper → Option (Tmp × TypeId × Operand)
  | ⟨some d, .range t x, _, _, _, none⟩ :: _ => some (d, t, x)
  | _ => none
def nxtOf : List Oper → Option (Tmp × Operand)
  | ⟨some d, .next x false, _, _, _, none⟩ :: _ => some (d, x)
  | _ => none
def entOf : List Oper → Option (Tmp × Operand)
  | ⟨some d, .entry x, _, _, _, none⟩ :: _ => some (d, x)
  | _ => none
/-- It begins. -/
theorem m_range {P : Program} {ops : Array Oper} {lo : List Oper} {d : Tmp} {t k e : TypeId} {x : Operand} {Q : Exit → Act → World → Prop} (hlo : rngOf lo = some (d, t, x)) (hu : P.underlying t = some (.map k e)) (hx : ∀ r, evO (Go.Proofs.Ytjbleblllmbcbaa.pat live r 0 n) x = some (.mp lm)) (hm : H[lm]? = some (.map m))
    (hkeys : live.all (fun p => Nat.blt p.1 n) = true) (hd : d < n) (hP : PatSt R (Ds.map markD) live n ⟨H, ds, wr⟩ a Hr) (hB : Bun R Ds n0 w0 H Hr w) (hwl : wr H.length = false) (hwr : ∀ l, l < H.length → wr l = true → l ≠ lm ∧ ∃ it, H[l]? = some it ∧ it.live = true)
    (hk : ∀ a' Hr' w', MRun R Ds n0 w0 wr H.length lm m ((d, .ptr H.length 0) :: live) n (H ++ [.gone]) ds none [] a' Hr' w' → Stp wr Hr w Hr' w' → wpList P ops Q lo.tail a' w') : wpList P ops Q lo a w := by
  unfold rngOf at hlo
  split at hlo
  case h_2 => cases hlo
  cases hlo
  have hP' := hP
  obtain ⟨r, vs, rfl, ht, hBl, hA⟩ := hP'
  have h1 := evO_sound (D := Ds.map markD) ht _ _ (hx r)
  obtain ⟨q, hq, hev⟩ := rel_mp h1
  obtain ⟨b, s, es, clock, e1, e2⟩ := hBl.getM hm
  rw [nums_get e1] at hq; cases hq
  have hb := (hB.own.1 lm _ _ hm e1).2 rfl
  have hlt : b < w.heap.size := (hB.own.1 lm _ _ hm e1).1
  have hrun := run_range_map (P := P) w t k e b es clock hu hb
  have hbel := World.below_alloc w (.mapIter (some b) clock #[] clock)
  have hns := nums_snoc Hr ⟨w.heap.size, 0, .mapIter (some b) clock #[] clock⟩
  have hD := drop_one hns
  have hS : Stp wr Hr w (Hr ++ [⟨w.heap.size, 0, .mapIter (some b) clock #[] clock⟩]) (w.alloc (.mapIter (some b) clock #[] clock)) := ⟨hbel.os, hbel.tape, hbel.output, hbel.size, ⟨_, hD.1, fun q hq => by rw [hD.2] at hq; rw [List.mem_singleton.1 hq]; exact .inl (Nat.le_refl _)⟩, fun k hk _ => hbel.block k hk⟩
  have hO' : OwnK R (H ++ [.gone]) (Hr ++ [⟨w.heap.size, 0, .mapIter (some b) clock #[] clock⟩]) (w.alloc (.mapIter (some b) clock #[] clock)) := ⟨own_new hB.own.1 hBl.len hbel (heap_alloc_new w _), hS.rd hB.own.2⟩
  have hB' := hB.stp hO' hS
  have hP2 : PatSt R (Ds.map markD) live n ⟨H ++ [.gone], ds, wr⟩ ⟨vs.toArray, Ds.map markD⟩ (Hr ++ [⟨w.heap.size, 0, .mapIter (some b) clock #[] clock⟩]) :=
    ⟨r, vs, rfl, by rw [hns]; exact ht.grow _, by rw [hns]; exact (hBl.grow _).snoc .gone, apart_new hA hB.own.1 hBl.len (Nat.le_refl _)⟩
  have hlH : H.length = Hr.length := hBl.len.symm
  have hlm : lm < H.length := (List.getElem?_eq_some_iff.1 hm).1
  have hnl : (nums Hr).length = H.length := by simp [nums, hlH]
  have hqL : (nums (Hr ++ [⟨w.heap.size, 0, .mapIter (some b) clock #[] clock⟩]))[H.length]? = some ⟨w.heap.size, 0, 0⟩ := by
    rw [hns, List.getElem?_append_right (by omega), hnl, Nat.sub_self]; rfl
  have hP3 := patSt_put hP2 hkeys hd (v := .ptr H.length 0) (V := .pointer (some ⟨w.heap.size, 0, none⟩)) (.ptr (q := ⟨w.heap.size, 0, 0⟩) hqL)
  refine atR_op rfl (V := .pointer (some ⟨w.heap.size, 0, none⟩)) (w' := w.alloc (.mapIter (some b) clock #[] clock)) ?_ (hk _ _ _ ⟨hP3, hB', by rw [List.getElem?_append_left hlm]; exact hm, by simp, hwl, b, s, es, clock, ⟨w.heap.size, 0, 0⟩, #[], clock, getElem?_append_some e1, hqL, e2, heap_alloc_new w _, Nat.le_refl _, ⟨List.nodup_nil, by simp, fun i x p _ _ => by simp⟩, fun l q' hl hqb => ?_, fun l q' hl hqb => ?_, fun p hp => by cases hp⟩ hS)
  · simp only [execOp, hev, RBlk.num, Sem.run_bind, hrun, Result.andThen_ok, Sem.run_pure]
  · rw [hns] at hl
    rcases Nat.lt_or_ge l (nums Hr).length with hlt' | hge
    · rw [List.getElem?_append_left hlt'] at hl
      obtain ⟨p, hp, rfl⟩ := nums_at hl
      have := own_lt hB.own.1 hBl.len hp
      simp only [RBlk.num] at hqb
      omega
    · rw [List.getElem?_append_right hge] at hl
      have : l - (nums Hr).length = 0 := by
        rcases Nat.eq_zero_or_pos (l - (nums Hr).length) with h | h
        · exact h
        · rw [List.getElem?_eq_none (by simp; omega)] at hl; cases hl
      omega
  · rw [hns] at hl
    rcases Nat.lt_or_ge l (nums Hr).length with hlt' | hge
    · rw [List.getElem?_append_left hlt'] at hl
      cases hw : wr l
      · rfl
      · obtain ⟨h2, it, h3, h4⟩ := hwr l (by omega) hw
        obtain ⟨p, hp, rfl⟩ := nums_at hl
        have ho := hA l lm it (.map m) p ⟨b, s, .map es clock⟩ h2 h3 hm h4 rfl hp e1 hqb
        have hpo := (hB.own.1 l it p h3 hp).2 h4
        have hpb : p.b = b := hqb
        have hb0 : w.heap[b]? = some (.map es clock) := hb
        rw [hpb, hb0] at hpo
        have hrl := hBl.2 l it p h3 hp
        have hpo := Option.some.inj hpo
        cases hrl with
        | cells _ => cases hpo
        | row _ _ _ _ _ => cases hpo
        | map _ => exact absurd ho h2
        | gone => cases h4
    · rw [List.getElem?_append_right hge] at hl
      have : l - (nums Hr).length = 0 := by
        rcases Nat.eq_zero_or_pos (l - (nums Hr).length) with h | h
        · exact h
        · rw [List.getElem?_eq_none (by simp; omega)] at hl; cases hl
      rw [this] at hl
      cases hl
      simp only [RBlk.num] at hqb
      omega
/-- What goes over it has turned. -/
theorem bun_turn (hB : Bun R Ds n0 w0 H Hr w) (hBl : Hr.length = H.length) (hRl : RelB R (nums Hr) H Hr) {q : Num} (hq : (nums Hr)[L]? = some q) (hg : H[L]? = some .gone) (hun : ∀ (l : Nat) q', (nums Hr)[l]? = some q' → q'.b = q.b → l = L) {w1 : World} (hg1 : w.grownBy w1 (some q.b)) : Bun R Ds n0 w0 H Hr w1 := by
  have hS : Stp (fun l => Nat.beq l L) Hr w Hr w1 := ⟨hg1.os, hg1.tape, hg1.output, hg1.size, ⟨[], by simp, by simp⟩, fun k hk hl => hg1.block k hk fun e => by
    have := hl L q hq (Option.some.inj e).symm
    simp at this⟩
  refine hB.stp ⟨fun l it p h1 h2 => ?_, hS.rd hB.own.2⟩ hS
  obtain ⟨x1, x2⟩ := hB.own.1 l it p h1 h2
  refine ⟨Nat.lt_of_lt_of_le x1 hg1.size, fun hv => ?_⟩
  rw [hg1.block p.b x1 fun e => by
    have := hun l p.num (nums_get h2) (Option.some.inj e)
    subst this
    rw [hg] at h1; cases h1; cases hv]
  exact x2 hv
/-- The next one. -/
theorem m_next {P : Program} {ops : Array Oper} {lo : List Oper} {d : Tmp} {x : Operand} {Q : Exit → Act → World → Prop} (hlo : nxtOf lo = some (d, x)) (hx : ∀ r, evO (Go.Proofs.Ytjbleblllmbcbaa.pat live r 0 n) x = some (.ptr L 0)) (hkeys : live.all (fun p => Nat.blt p.1 n) = true) (hd : d < n)
    (h : MRun R Ds n0 w0 wr L lm m live n H ds cur vis a Hr w)
    (hdone : (∀ p ∈ m.E, p ∈ vis) → ∀ a', MRun R Ds n0 w0 wr L lm m ((d, .tuple [.bool true false]) :: live) n H ds none vis a' Hr w → wpList P ops Q lo.tail a' w)
    (hmore : ∀ p ∈ m.E, p ∉ vis → p.1.length = m.ks.length → wfL m.cs p.2 = true → ∀ a' w', MRun R Ds n0 w0 wr L lm m ((d, .tuple [.bool true true, .agg (keyA m.ks p.1), decM m.g m.cs p.2]) :: live) n H ds (some p) (vis ++ [p]) a' Hr w' → Stp (fun l => Nat.beq l L) Hr w Hr w' → wpList P ops Q lo.tail a' w') : wpList P ops Q lo a w := by
  unfold nxtOf at hlo
  split at hlo
  case h_2 => cases hlo
  rename_i ty _ _ _
  cases hlo
  obtain ⟨b, s, es, clock, q, seen, c0, r1, r2, r3, r4, r5, r6, r7, r8, r9⟩ := h.run
  have hP := h.pat
  obtain ⟨r, vs, rfl, ht, hBl, hA⟩ := h.pat
  have h1 := evO_sound (D := Ds.map markD) ht _ _ (hx r)
  obtain ⟨q', hq', hev⟩ := rel_ptr h1
  rw [r2] at hq'; cases hq'
  have hb : w.heap[b]? = some (.map es clock) := (h.bun.own.1 lm _ _ h.hm r1).2 rfl
  rcases run_next_at (P := P) w ty q.b b clock c0 seen es clock r4 hb r3.clock r5 with ⟨hz, hrun⟩ | ⟨x, hxl, w1, hw1, hrun⟩
  · refine atR_op rfl (V := .tuple #[.bool false]) (w' := w) (by simp only [execOp, hev, Sem.run_bind, hrun, Result.andThen_ok, Sem.run_pure]) (hdone (fun p hp => ?_) _ ⟨patSt_put hP hkeys hd (.tuple (vs := [_]) (.cons .bool .nil)), h.bun, h.hm, h.hg, h.wl, b, s, es, clock, q, seen, c0, r1, r2, r3, r4, r5, r6, r7, r8, fun p hp => by cases hp⟩)
    obtain ⟨i, hi⟩ := List.getElem?_of_mem hp
    obtain ⟨y, hy⟩ := at_ent r3 hi
    exact (r6.at_ i y p hy hi).1 (all_seen es seen hz y (List.mem_of_getElem? hy))
  · obtain ⟨hem, hes⟩ := mem_left hxl
    obtain ⟨i, hi⟩ := List.getElem?_of_mem hem
    obtain ⟨p, hp, hk, hv⟩ := ent_at r3 hi
    have hpm := List.mem_of_getElem? hp
    have hnv : p ∉ vis := fun hv => by rw [(r6.at_ i x p hi hp).2 hv] at hes; cases hes
    have hkl := r3.keys p hpm
    have hwf := r3.vals p hpm
    have hr1 : w1.heap = w.heap := by rcases hw1 with rfl | rfl <;> rfl
    have hqlt : q.b < w.heap.size := (Array.getElem?_eq_some_iff.1 r4).1
    have hgr : w.grownBy (setBlock w1 q.b (.mapIter (some b) clock (seen.push x.born) clock)) (some q.b) := by
      rcases hw1 with rfl | rfl <;> exact ⟨rfl, rfl, rfl, by simp [setBlock], fun k _ hk => by
        simp only [setBlock]
        rw [Array.getElem?_setIfInBounds_ne (fun e => hk (by rw [e]))]
        try rfl⟩
    have hset : (setBlock w1 q.b (.mapIter (some b) clock (seen.push x.born) clock)).heap[q.b]? = some (.mapIter (some b) clock (seen.push x.born) clock) := by
      simp only [setBlock, hr1]
      rw [Array.getElem?_setIfInBounds_self_of_lt hqlt]
    have hBt := bun_turn h.bun hBl.len hBl r2 h.hg r7 hgr
    refine atR_op rfl (V := .tuple #[.bool true, x.key, x.val]) (w' := setBlock w1 q.b (.mapIter (some b) clock (seen.push x.born) clock)) (by simp only [execOp, hev, Sem.run_bind, hrun, Result.andThen_ok, Sem.run_pure]) (hmore p hpm hnv hkl hwf _ _ ⟨patSt_put hP hkeys hd (.tuple (vs := [_, _, _]) (.cons .bool (.cons ?_ (.cons ?_ .nil)))), hBt, h.hm, h.hg, h.wl, b, s, es, clock, q, seen.push x.born, clock, r1, r2, r3, hset, Nat.le_refl _, seen_push r3 r6 hi hp hnv, r7, r8, fun p' hp' => ⟨rfl, i, seen, x, rfl, hi, by rw [← Option.some.inj hp']; exact hp⟩⟩ ⟨hgr.os, hgr.tape, hgr.output, hgr.size, ⟨[], by simp, by simp⟩, fun k hk hl => hgr.block k hk fun e => ?_⟩)
    · rw [hk]; exact .agg (keyA_rel hkl)
    · rw [hv]; exact dec_rel hwf r3.one
    · have := hl L q r2 (Option.some.inj e).symm
      simp at this
/-- Its key and its value, read again. -/
theorem m_entry {P : Program} {ops : Array Oper} {lo : List Oper} {d : Tmp} {x : Operand} {p : Ent} {Q : Exit → Act → World → Prop} (hlo : entOf lo = some (d, x)) (hx : ∀ r, evO (Go.Proofs.Ytjbleblllmbcbaa.pat live r 0 n) x = some (.ptr L 0)) (hkeys : live.all (fun p => Nat.blt p.1 n) = true) (hd : d < n)
    (h : MRun R Ds n0 w0 wr L lm m live n H ds (some p) vis a Hr w)
    (hk : ∀ a', MRun R Ds n0 w0 wr L lm m ((d, .tuple [.agg (keyA m.ks p.1), decM m.g m.cs p.2]) :: live) n H ds (some p) vis a' Hr w → wpList P ops Q lo.tail a' w) : wpList P ops Q lo a w := by
  unfold entOf at hlo
  split at hlo
  case h_2 => cases hlo
  cases hlo
  obtain ⟨b, s, es, clock, q, seen, c0, r1, r2, r3, r4, r5, r6, r7, r8, r9⟩ := h.run
  have hP := h.pat
  obtain ⟨r, vs, rfl, ht, hBl, hA⟩ := h.pat
  have h1 := evO_sound (D := Ds.map markD) ht _ _ (hx r)
  obtain ⟨q', hq', hev⟩ := rel_ptr h1
  rw [r2] at hq'; cases hq'
  have hb : w.heap[b]? = some (.map es clock) := (h.bun.own.1 lm _ _ h.hm r1).2 rfl
  obtain ⟨hc, i, seen', y, hs, hy, hp⟩ := r9 p rfl
  subst hc; subst hs
  obtain ⟨p2, hp2, hky, hvl⟩ := ent_at r3 hy
  rw [hp] at hp2; cases hp2
  have hpm := List.mem_of_getElem? hp
  have hnd : (es.toList.map (·.born)).Nodup := List.pairwise_map.2 (r3.born.imp fun h => by omega)
  have hrun := run_entry_at (P := P) w q.b b _ seen' es _ y r4 hb (List.mem_of_getElem? hy) hnd
  refine atR_op rfl (V := .tuple #[y.key, y.val]) (w' := w) (by simp only [execOp, hev, Sem.run_bind, hrun, Result.andThen_ok, Sem.run_pure]) (hk _ ⟨patSt_put hP hkeys hd (.tuple (vs := [_, _]) (.cons ?_ (.cons ?_ .nil))), h.bun, h.hm, h.hg, h.wl, b, s, es, _, q, _, _, r1, r2, r3, r4, r5, r6, r7, r8, r9⟩)
  · rw [hky]; exact .agg (keyA_rel (r3.keys p hpm))
  · rw [hvl]; exact dec_rel (r3.vals p hpm) r3.one
/-- The loop: at most as many rounds as it has entries. -/
theorem m_loop {P : Program} {c : Code} (hc : isLp c = true) (live : List Ent → List (Nat × AV)) (H : List Ent → Mem) {Q : Exit → Act → World → Prop} (S : List Ent → List RBlk → World → Prop)
    (hround : ∀ vis a Hr w (Q' : Exit → Act → World → Prop), MRun R Ds n0 w0 wr L lm m (live vis) n (H vis) ds none vis a Hr w → S vis Hr w → (∀ p a' Hr' w', p ∉ vis → p ∈ m.E → MRun R Ds n0 w0 wr L lm m (live (vis ++ [p])) n (H (vis ++ [p])) ds none (vis ++ [p]) a' Hr' w' → S (vis ++ [p]) Hr' w' → Q' .normal a' w') → (∀ e a' w', e ≠ .normal → Q e a' w' → Q' e a' w') → (lpB c).wp P Q' a w)
    (h : MRun R Ds n0 w0 wr L lm m (live []) n (H []) ds none [] a Hr w) (hS : S [] Hr w) : c.wp P Q a w := by
  refine wp_lp (m.E.length + 1) hc ?_
  have key : ∀ j vis, vis.length + j = m.E.length → ∀ a Hr w, MRun R Ds n0 w0 wr L lm m (live vis) n (H vis) ds none vis a Hr w → S vis Hr w → Code.rounds P (lpB c) Q (j + 1) a w := by
    intro j
    induction j with
    | zero =>
      intro vis hv a Hr w h hS
      rw [rounds_succ]
      refine hround vis a Hr w _ h hS (fun p a' Hr' w' _ _ h' _ => ?_) (fun e a' w' he hq => ?_)
      · have := h'.len
        simp at this; omega
      · cases e <;> first | exact hq | exact absurd rfl he
    | succ j ih =>
      intro vis hv a Hr w h hS
      rw [rounds_succ]
      refine hround vis a Hr w _ h hS (fun p a' Hr' w' _ _ h' hS' => ?_) (fun e a' w' he hq => ?_)
      · exact ih (vis ++ [p]) (by simp; omega) a' Hr' w' h' hS'
      · cases e <;> first | exact hq | exact absurd rfl he
  exact key m.E.length [] (by simp) a Hr w h hS
end
/-! ### Functions that begin with memory of ours. -/
/-- Some of the labels, by other numbers. -/
theorem sub_mem {R : Rws} {sel : List Nat} {H H' : Mem} {Hr : List RBlk} {w : World} (hnd : nodupN sel = true) (hH : sel.map (fun l => (H[l]?).bind (renI sel)) = H'.map some) (hBl : RelB R (nums Hr) H Hr) (hA : Apart H Hr) (hO : OwnK R H Hr w) :
    RelB R (nums (pick sel Hr)) H' (pick sel Hr) ∧ Apart H' (pick sel Hr) ∧ OwnK R H' (pick sel Hr) w ∧ (∀ i l : Nat, sel[i]? = some l → (nums (pick sel Hr))[i]? = (nums Hr)[l]?) := by
  have hbl := hBl.len
  have hlen : H'.length = sel.length := by have := congrArg List.length hH; simpa using this.symm
  have hat : ∀ i l : Nat, sel[i]? = some l → ∃ p q : AIt, H[l]? = some p ∧ renI sel p = some q ∧ H'[i]? = some q := by
    intro i l hi
    have h2 := congrArg (fun z : List (Option AIt) => z[i]?) hH
    simp only [List.getElem?_map, hi, Option.map_some] at h2
    have hi' : i < H'.length := by rw [hlen]; exact (List.getElem?_eq_some_iff.1 hi).1
    rw [List.getElem?_eq_getElem hi', Option.map_some, Option.some.injEq] at h2
    rw [Option.bind_eq_some_iff] at h2
    obtain ⟨p, h3, h4⟩ := h2
    exact ⟨p, _, h3, h4, List.getElem?_eq_getElem hi'⟩
  have hv : ∀ l ∈ sel, l < Hr.length := fun l hl => by
    obtain ⟨i, hi, hi'⟩ := List.mem_iff_getElem.1 hl
    obtain ⟨p, q, h3, _, _⟩ := hat i l (by rw [List.getElem?_eq_getElem hi, hi'])
    rw [hbl]; exact (List.getElem?_eq_some_iff.1 h3).1
  have hρ := nums_pick (Hr := Hr) hv
  have hpk := pick_get (Hr := Hr) hv
  have hto : ∀ (i : Nat) jt q, H'[i]? = some jt → (pick sel Hr)[i]? = some q → ∃ l it, sel[i]? = some l ∧ H[l]? = some it ∧ renI sel it = some jt ∧ Hr[l]? = some q := fun i jt q h1 h2 => by
    have hi2 : i < sel.length := by rw [← hlen]; exact (List.getElem?_eq_some_iff.1 h1).1
    obtain ⟨p, q', h3, h4, h5⟩ := hat i sel[i] (List.getElem?_eq_getElem hi2)
    rw [h1] at h5; cases h5
    exact ⟨sel[i], p, List.getElem?_eq_getElem hi2, h3, h4, (hpk i _ (List.getElem?_eq_getElem hi2)).symm.trans h2⟩
  refine ⟨⟨by rw [pick_len hv, hlen], fun i jt q h1 h2 => ?_⟩, ?_, ⟨fun i jt q h1 h2 => ?_, hO.2.sub fun b hb => ?_⟩, hρ⟩
  · obtain ⟨l, it, e1, e2, e3, e4⟩ := hto i jt q h1 h2
    exact RelI.ren hρ e3 (hBl.2 l it q e2 e4)
  · have hsn := nodupN_spec hnd
    intro i j it1 jt1 p1 p2 hne h1 h2 l1 l2 q1 q2 hb
    obtain ⟨l, it, e1, e2, e3, e4⟩ := hto i it1 p1 h1 q1
    obtain ⟨m, jt, f1, f2, f3, f4⟩ := hto j jt1 p2 h2 q2
    have hlm : l ≠ m := fun e => by
      subst e
      have hi := (List.getElem?_eq_some_iff.1 e1).1
      exact hne ((List.getElem?_inj hi hsn).1 (e1.trans f1.symm))
    have ho := hA l m it jt p1 p2 hlm e2 f2 (by rw [← renI_live e3]; exact l1) (by rw [← renI_live f3]; exact l2) e4 f4 hb
    have g1 := renI_owner e3 e1
    have g2 := renI_owner f3 f1
    rw [ho] at g1
    exact (List.getElem?_inj (List.getElem?_eq_some_iff.1 g1).1 hsn).1 (g1.trans g2.symm)
  · obtain ⟨l, it, e1, e2, e3, e4⟩ := hto i jt q h1 h2
    obtain ⟨g1, g2⟩ := hO.1 l it q e2 e4
    exact ⟨g1, fun hlv => g2 (by rw [← renI_live e3]; exact hlv)⟩
  · rw [List.mem_map] at hb ⊢
    obtain ⟨q, hq, e⟩ := hb
    exact ⟨q, nums_pick_mem hq, e⟩
theorem ev_enterH {E : Env} {f : FuncId} {fn : Func} {c : Code} (hf : E.P.funcs[f]? = some fn) (hb : fn.body = some c) {args : List AV} {Args : List Value} {H : Mem} {Hr : List RBlk} (hn : args.length ≤ fn.ntmps) {w : World} (ha : RelL E.rows (nums Hr) args Args) (hB : RelB E.rows (nums Hr) H Hr) (hA : Apart H Hr) (hO : OwnK E.rows H Hr w) {ds : List Bool} {wr : Nat → Bool} {Q : Ending → World → Prop}
    (h : ∀ a, PatSt E.rows ([].map markD) (inLive 0 args) fn.ntmps ⟨H, ds, wr⟩ a Hr → Bun E.rows [] 0 w H Hr w → c.wp E.P (bodyPostM Fence.wide 0 E.P fn Q) a w) : Calls E.P f Args.toArray w Q := by
  refine calls_marks hf hb (h _ ?_ ⟨hO, by simp, by simp, fun q _ => Nat.zero_le _, ⟨rfl, rfl, rfl, Nat.le_refl _, fun k hk => absurd hk (Nat.not_lt_zero _)⟩, Nat.zero_le _⟩)
  have hl := ha.len
  have hR : RelSt E.rows [] ⟨args ++ List.replicate (fn.ntmps - args.length) undefA, ⟨H, ds, wr⟩⟩ ⟨Args.toArray ++ Array.replicate (fn.ntmps - Args.toArray.size) undef, []⟩ Hr := by
    refine ⟨Args ++ List.replicate (fn.ntmps - args.length) undef, ?_, ha.append (RelL.rep .raw _), hB, hA⟩
    congr 1
    apply Array.toList_inj.1
    simp [hl]
  exact patSt_of (live := []) hR (by simp; omega) (fun i v hv => by
    obtain ⟨_, h2⟩ := look_in hv
    simp only [Nat.sub_zero] at h2
    rw [List.getElem?_append_left (List.getElem?_eq_some_iff.1 h2).1]; exact h2)
/-- The end of such a function. -/
theorem ev_endH {E : Env} (hE : EnvOK E) {live : List (Nat × AV)} {n n0 : Nat} {H : Mem} {ds : List Bool} {wr : Nat → Bool} {r : AV} {fn : Func} (h : ∀ rs, resA E.P E.rows H (pat live rs 0 n) fn.results.toList = some [r]) {a : Act} {Hr : List RBlk} {w w0 : World} (hP : PatSt E.rows ([].map markD) live n ⟨H, ds, wr⟩ a Hr) (hB : Bun E.rows [] n0 w0 H Hr w) {Q : Ending → World → Prop}
    (hk : ∀ V, Rel E.rows (nums Hr) r V → Q (.returned V) w) {e : Exit} (he : e = .ret ∨ e = .normal) : bodyPostM Fence.wide 0 E.P fn Q e a w := by
  obtain ⟨rs, hR⟩ := hP
  obtain ⟨V, hv, hres⟩ := results_sound hE.rows hR (h rs)
  have hd : a.defers = [] := by obtain ⟨tv, rfl, _⟩ := hR; rfl
  have := leave_marks (P := E.P) (fn := fn) (tmps := a.tmps) (Q := Q) [] w (by simp) (by simp) ⟨V, hres _ hB.own, hk V hv⟩
  rw [List.map_nil, ← hd] at this
  rcases he with rfl | rfl <;> exact this
/-- Nothing that was there has changed. -/
def Fr0 (W : World) (B : Nat → Bool) (Hr : List RBlk) (w : World) : Prop := Below W.heap.size W w ∧ ∀ (l : Nat) q, (nums Hr)[l]? = some q → B l = true → W.heap.size ≤ q.b
theorem Fr0.step {W : World} {B wr : Nat → Bool} {Hr Hr' : List RBlk} {w w' : World} (h : Fr0 W B Hr w) (hS : Stp wr Hr w Hr' w') (hw : ∀ l, wr l = true → B l = true) : Fr0 W B Hr' w' := by
  obtain ⟨hb, hn⟩ := h
  obtain ⟨σ, e1, n1⟩ := hS.ext
  refine ⟨⟨hS.os.trans hb.os, hS.tape.trans hb.tape, hS.output.trans hb.output, Nat.le_trans hb.size hS.size, fun k hk => (hS.block k (Nat.lt_of_lt_of_le hk hb.size) fun l q hl hq => ?_).trans (hb.block k hk)⟩, fun l q hl hB => ?_⟩
  · cases hwl : wr l
    · rfl
    · have := hn l q hl (hw l hwl); omega
  · rw [e1] at hl
    rcases Nat.lt_or_ge l (nums Hr).length with hlt | hge
    · rw [List.getElem?_append_left hlt] at hl; exact hn l q hl hB
    · rw [List.getElem?_append_right hge] at hl
      rcases n1 q (List.mem_of_getElem? hl) with h4 | ⟨l2, p, x1, x2, x3⟩
      · exact Nat.le_trans hb.size h4
      · rw [← x2]; exact hn l2 p x1 (hw l2 x3)
theorem Fr0.trim {W : World} {B : Nat → Bool} {Hr : List RBlk} {w : World} (h : Fr0 W B Hr w) (n : Nat) : Fr0 W B (Hr.take n) w := ⟨h.1, fun l q hl hB => by
  simp only [nums, List.map_take] at hl
  rw [List.getElem?_take] at hl
  split at hl
  · exact h.2 l q hl hB
  · cases hl⟩
end Go.Proofs.Ytjbleblllmbcbaa
