/- Whole functions on values whose shape is known. No program of its own. No condition. -/
import Derived.Test.YtojmifniidddpaaEv8
set_option linter.unusedVariables false
set_option linter.unusedSimpArgs false
namespace Go.Proofs.Ytojmifniidddpaa
open Go.RowKit

/-- An operation that has come up in its turn. -/
theorem did_seq {P : Program} {o : Oper} {st st' : ASt} (h : Did P false o st st') {a : Act} {Hr : List Block} {w : World} (hR : RelSt st a Hr) (hO : Own Hr w) {Kn : Act → World → Prop} {Q : Exit → Act → World → Prop}
    (hk : ∀ a' Hr' w', RelSt st' a' Hr' → Own Hr' w' → Stp st.m.lo Hr w Hr' w' → Kn a' w') : o.wp P a w Kn Q := by
  have hR' := hR
  obtain ⟨vs, rfl, ht, hB, hn⟩ := hR'
  rcases h with ⟨v, ds, rfl, h⟩ | ⟨_, v, cs, t, mk, rfl, h⟩ | ⟨_, l, cs, t, rfl, hl, ⟨cs0, hcs0⟩, h⟩ | ⟨_, v, m', rfl, hlo, h⟩
  · obtain ⟨V, h1, h2⟩ := h _ _ hR
    obtain ⟨vs', e, hv⟩ := putA_rel ht o.dst h1
    exact wp_of_atR (h2 w hO) fun u w' ⟨hu, hb⟩ => by
      subst hu
      exact hk _ Hr w' ⟨vs', e, hv, hB, hn⟩ (hO.grow hb) (.of_below hb)
  · obtain ⟨Cs, h1, h2, h3⟩ := h _ _ hR
    exact wp_of_atR (h3 w hO) fun u w' ⟨hu, hw⟩ => by
      subst hu; subst hw
      obtain ⟨vs', e, hv⟩ := putA_rel (ht.grow [w.heap.size]) o.dst (h2 w.heap.size)
      refine hk _ (Hr ++ [(w.heap.size, Cs.toArray, t)]) _ ⟨vs', e, by rw [nums_snoc]; exact hv, by rw [nums_snoc]; exact (hB.grow _).snoc (h1.grow _), by rw [nums_snoc]; exact nums_fresh hO hn⟩ ?_ (.alloc _ _)
      exact hO.snoc (World.below_alloc _ _) (heap_alloc_new w _)
  · obtain ⟨b, Cs0, Cs, ty, h1, h2, h3⟩ := h _ _ hR
    obtain ⟨w', hr, hs, hblk⟩ := h3 w hO
    obtain ⟨b', Cs', e1, e2⟩ := hB.get hcs0
    rw [h1] at e1; cases e1
    unfold Oper.wp
    rw [hr]
    simp only [Oper.upon]
    obtain ⟨vs', e, hv⟩ := putA_rel (v := undefA) (V := undef) ht o.dst .raw
    have hN : nums (Hr.set l (b, Cs.toArray, t)) = nums Hr := nums_set h1
    have hbl := nums_get h1
    refine hk _ (Hr.set l (b, Cs.toArray, t)) w' ⟨vs', e, by rw [hN]; exact hv, by rw [hN]; exact hB.set h2, by rw [hN]; exact hn⟩ ?_ ?_
    · intro p hp
      obtain ⟨j, hj, hjp⟩ := List.mem_iff_getElem.1 hp
      by_cases hjl : j = l
      · subst hjl; simp at hjp; subst hjp; exact hblk
      · simp at hj
        rw [List.getElem_set_ne (Ne.symm hjl)] at hjp
        have hj' : Hr[j]? = some p := by rw [List.getElem?_eq_some_iff]; exact ⟨hj, hjp⟩
        have hne : p.1 ≠ b := by
          intro hpb
          have e3 : (nums Hr)[j]? = some b := by rw [← hpb]; simp [nums, hj']
          exact hjl ((List.getElem?_inj (List.getElem?_eq_some_iff.1 e3).1 hn).1 (e3.trans hbl.symm))
        have := hO p (List.mem_of_getElem? hj')
        exact (hs.block p.1 hne).trans this
    · refine ⟨hs.os, hs.tape, hs.output, by rw [hs.size]; exact Nat.le_refl _, ⟨[], by simp [hN], by simp⟩, fun k hk hd => hs.block k ?_⟩
      intro hkb
      subst hkb
      apply hd
      have : ((nums Hr).drop st.m.lo)[l - st.m.lo]? = some k := by rw [List.getElem?_drop, Nat.add_sub_cancel' hl]; exact hbl
      exact List.mem_of_getElem? this
  · obtain ⟨f, args, hr, hc⟩ := h _ _ w hR hO
    unfold Oper.wp
    rw [hr]
    simp only [Oper.upon]
    refine hc.mono ?_
    rintro e w' ⟨V, Hr', rfl, hv, hB', hn', hO', hS⟩
    obtain ⟨σ, hσ, _⟩ := hS.ext
    obtain ⟨vs', e, hv'⟩ := putA_rel (ρ := nums Hr') (by rw [hσ]; exact ht.grow σ) o.dst hv
    exact hk _ Hr' w' ⟨vs', e, hv', hB', hn'⟩ hO' hS

theorem wanted_some {ops : List Oper} {o : Oper} {tl : Array Value} {j d : Nat} {want b : Bool} (hg : o.guard = some (j, want)) (hd : (ops[j]?).bind (·.dst) = some d) (hv : tl[d]? = some (.bool b)) : Region.wanted o (yielded ops.toArray tl) = (b == want) := by
  unfold Region.wanted yielded
  rw [hg]
  have e : (ops.toArray[j]?).bind (·.dst) = some d := by simpa using hd
  simp only [e, Option.bind_some, hv]
  rfl
theorem guard_sound {ops : List Oper} {o : Oper} {st : ASt} {yes no : ASt → Prop} (h : guardP ops o st yes no) : ∃ st1, (∀ a Hr, RelSt st a Hr → RelSt st1 a Hr) ∧ st1.m.lo = st.m.lo ∧ st1.m.H = st.m.H ∧ st1.tl = st.tl ∧
    ((yes st1 ∧ ∀ a Hr, RelSt st a Hr → Region.wanted o (yielded ops.toArray a.tmps) = true) ∨ (o.guard ≠ none ∧ no st1 ∧ ∀ a Hr, RelSt st a Hr → Region.wanted o (yielded ops.toArray a.tmps) = false)) := by
  unfold guardP at h
  split at h
  · rename_i hg
    exact ⟨st, fun _ _ h => h, rfl, rfl, rfl, .inl ⟨h, fun a Hr _ => by simp [Region.wanted, hg]⟩⟩
  · rename_i j want hg
    split at h
    · exact h.elim
    · rename_i d hd
      have key : ∀ (l b : Bool), st.tl[d]? = some (.bool l b) → ∀ a Hr, RelSt st a Hr → Region.wanted o (yielded ops.toArray a.tmps) = (b == want) := by
        rintro l b hb a Hr ⟨vs, rfl, ht, _, _⟩
        obtain ⟨V, h1, h2⟩ := ht.get hb
        obtain rfl := h2.bool_inv
        exact wanted_some hg hd (by simpa using h1)
      have hgn : o.guard ≠ none := by rw [hg]; simp
      split at h
      · rename_i b hb
        have k := key _ _ hb
        cases hw : (b == want) <;> simp only [hw, cond_true, cond_false] at h
        · exact ⟨st, fun _ _ h => h, rfl, rfl, rfl, .inr ⟨hgn, h, fun a Hr hR => by rw [k a Hr hR, hw]⟩⟩
        · exact ⟨st, fun _ _ h => h, rfl, rfl, rfl, .inl ⟨h, fun a Hr hR => by rw [k a Hr hR, hw]⟩⟩
      · rename_i b hb
        have k := key _ _ hb
        split at h
        · rename_i c ds hds
          obtain ⟨rfl, h⟩ := h
          cases hw : (b == want) <;> simp only [hw, cond_true, cond_false] at h
          · exact ⟨⟨st.tl, ⟨st.m.H, ds, st.m.lo⟩⟩, fun _ _ h => h, rfl, rfl, rfl, .inr ⟨hgn, h, fun a Hr hR => by rw [k a Hr hR, hw]⟩⟩
          · exact ⟨⟨st.tl, ⟨st.m.H, ds, st.m.lo⟩⟩, fun _ _ h => h, rfl, rfl, rfl, .inl ⟨h, fun a Hr hR => by rw [k a Hr hR, hw]⟩⟩
        · exact h.elim
      · exact h.elim

section
variable {E : Env} (hE : EnvOK E) {call : CallF} (hC : CallOK E call)
include hE hC
/-- One operation of a region: skipped or done. -/
theorem step_sound {p : Bool} {ops : List Oper} {o : Oper} {st : ASt} {K : ASt → Prop} (h : stepP E call p ops o st K) : ∃ st1 st', K st' ∧ (∀ a Hr, RelSt st a Hr → RelSt st1 a Hr) ∧ st1.m.lo = st.m.lo ∧ st1.m.H = st.m.H ∧ st1.tl = st.tl ∧
    (((∀ a Hr, RelSt st a Hr → Region.wanted o (yielded ops.toArray a.tmps) = true) ∧ Did E.P p o st1 st') ∨ (o.guard ≠ none ∧ (∀ a Hr, RelSt st a Hr → Region.wanted o (yielded ops.toArray a.tmps) = false) ∧ st' = st1.put o.dst undefA)) := by
  obtain ⟨st1, h1, h2, h3, h3', h4 | ⟨hgn, h4⟩⟩ := guard_sound h
  · obtain ⟨h5, h6⟩ := h4
    obtain ⟨st', h7, h8⟩ := doP_sound hE hC h5
    exact ⟨st1, st', h7, h1, h2, h3, h3', .inl ⟨h6, h8⟩⟩
  · obtain ⟨h5, h6⟩ := h4
    exact ⟨st1, _, h5, h1, h2, h3, h3', .inr ⟨hgn, h6, rfl⟩⟩
omit hE hC in
theorem Did.lo {P : Program} {p : Bool} {o : Oper} {st st' : ASt} (h : Did P p o st st') : st'.m.lo = st.m.lo := by
  rcases h with ⟨v, ds, rfl, _⟩ | ⟨_, v, cs, t, mk, rfl, _⟩ | ⟨_, l, cs, t, rfl, _⟩ | ⟨_, v, m', rfl, h, _⟩ <;> first | rfl | exact h
theorem list_sound (ops : List Oper) : ∀ (l : List Oper) (st : ASt) (K : ASt → Prop), listP E call ops l st K → ∃ st', K st' ∧ st'.m.lo = st.m.lo ∧ ∀ a Hr w, RelSt st a Hr → Own Hr w → ∀ Q : Exit → Act → World → Prop,
    (∀ a' Hr' w', RelSt st' a' Hr' → Own Hr' w' → Stp st.m.lo Hr w Hr' w' → Q .normal a' w') → wpList E.P ops.toArray Q l a w
  | [], st, K, h => ⟨st, h, rfl, fun a Hr w hR hO Q hq => hq a Hr w hR hO (.refl _ _ _)⟩
  | o :: r, st, K, h => by
    obtain ⟨st1, st2, hk, h1, h2, h3, h3', h4⟩ := step_sound hE hC h
    obtain ⟨st', hK, hlo, hl⟩ := list_sound ops r st2 K hk
    rcases h4 with ⟨hw, hd⟩ | ⟨_, hw, rfl⟩
    · refine ⟨st', hK, hlo.trans (hd.lo.trans h2), fun a Hr w hR hO Q hq => ?_⟩
      apply wpList_step
      intro Kn hKn
      rw [if_pos (hw a Hr hR)]
      refine did_seq hd (h1 a Hr hR) hO fun a' Hr' w' hR' hO' hS => hKn _ _ (hl a' Hr' w' hR' hO' Q fun a2 Hr2 w2 hR2 hO2 hS2 => hq a2 Hr2 w2 hR2 hO2 ?_)
      rw [hd.lo, h2] at hS2
      rw [h2] at hS
      exact hS.trans hS2
    · refine ⟨st', hK, hlo.trans h2, fun a Hr w hR hO Q hq => ?_⟩
      apply wpList_step
      intro Kn hKn
      rw [if_neg (by rw [hw a Hr hR]; simp)]
      obtain ⟨vs, rfl, ht, hB, hn⟩ := h1 a Hr hR
      obtain ⟨vs', e, hv⟩ := putA_rel (v := undefA) (V := undef) ht o.dst .raw
      refine hKn _ _ (hl _ Hr w ⟨vs', e, hv, hB, hn⟩ hO Q fun a2 Hr2 w2 hR2 hO2 hS2 => hq a2 Hr2 w2 hR2 hO2 ?_)
      have : (st1.put o.dst undefA).m.lo = st.m.lo := h2
      rw [this] at hS2
      exact hS2
omit hE hC in
theorem RelSt.put {st : ASt} {a : Act} {Hr : List Block} (h : RelSt st a Hr) (d : Option Tmp) {v : AV} {V : Value} (hv : Rel (nums Hr) v V) (ds : List Bool) : RelSt ⟨putA st.tl d v, ⟨st.m.H, ds, st.m.lo⟩⟩ (a.put d V) Hr := by
  obtain ⟨vs, rfl, ht, hB, hn⟩ := h
  obtain ⟨vs', e, hv'⟩ := putA_rel ht d hv
  exact ⟨vs', e, hv', hB, hn⟩
omit hE hC in
theorem more_snoc (p : Block) (Hr : List Block) : more [p] (· ∈ Hr) = (· ∈ Hr ++ [p]) := by
  funext q; simp only [more, List.mem_append, List.mem_singleton]; exact propext Or.comm
omit hE hC in
theorem more_nil (S : Block → Prop) : more [] S = S := by
  funext q; simp [more]
theorem head_sound (ops : List Oper) : ∀ (ord : List (Mv × Nat)) (st : ASt) (K : ASt → Prop), headP E call ops ord st K → ∃ st', K st' ∧ st'.m.lo = st.m.lo ∧ ∀ a Hr, RelSt st a Hr → ∀ (B : Nat) (W : World) (L : Post),
    (∀ a' Hr', RelSt st' a' Hr' → (∃ σ, nums Hr' = nums Hr ++ σ ∧ ∀ b ∈ σ, W.heap.size ≤ b) → L a' (· ∈ Hr')) → wpG E.P ops.toArray B W [] L (ord.map (·.1)) a (· ∈ Hr)
  | [], st, K, h => ⟨st, h, rfl, fun a Hr hR B W L hL => hL a Hr hR ⟨[], by simp, by simp⟩⟩
  | (.q i, _) :: r, st, K, h => by
    unfold headP at h
    split at h
    · rename_i o ho
      cases hm : isMake o <;> simp only [hm, cond_true, cond_false] at h
      obtain ⟨st1, st2, hk, h1, h2, h3, h3', h4⟩ := step_sound hE hC h
      obtain ⟨st', hK, hlo, hl⟩ := head_sound ops r st2 K hk
      rcases h4 with ⟨hw, hd⟩ | ⟨_, hw, rfl⟩
      · refine ⟨st', hK, hlo.trans (hd.lo.trans h2), fun a Hr hR B W L hL => ?_⟩
        rcases hd with ⟨v, ds, rfl, hd⟩ | ⟨hm', _⟩ | ⟨hp, _⟩ | ⟨hp, _⟩
        · obtain ⟨V, hv, hat⟩ := hd a Hr (h1 a Hr hR)
          exact ⟨o, at_list ho, V, .inl ⟨hw a Hr hR, fun w hc => hat w (hc.resolve_left (by simp)).2.2⟩, hl _ _ ((h1 a Hr hR).put o.dst hv ds) B W L hL⟩
        · rw [hm] at hm'; cases hm'
        · cases hp
        · cases hp
      · refine ⟨st', hK, hlo.trans h2, fun a Hr hR B W L hL => ?_⟩
        exact ⟨o, at_list ho, undef, .inr ⟨hw a Hr hR, rfl⟩, hl _ _ ((h1 a Hr hR).put o.dst .raw _) B W L hL⟩
    · exact h.elim
  | (.g i, _) :: r, st, K, h => by
    unfold headP at h
    split at h
    · rename_i o ho
      cases hm : (isMake o && o.guard.isNone) <;> simp only [hm, cond_true, cond_false] at h
      obtain ⟨st1, st2, hk, h1, h2, h3, h3', h4⟩ := step_sound hE hC h
      obtain ⟨st', hK, hlo, hl⟩ := head_sound ops r st2 K hk
      rcases h4 with ⟨hw, hd⟩ | ⟨hg, _⟩
      · refine ⟨st', hK, hlo.trans (hd.lo.trans h2), fun a Hr hR B W L hL => ?_⟩
        refine ⟨o, at_list ho, hw a Hr hR, ?_⟩
        rcases hd with ⟨v, ds, rfl, hd⟩ | ⟨_, v, cs, t, mk, rfl, hd⟩ | ⟨hp, _⟩ | ⟨hp, _⟩
        · obtain ⟨V, hv, hat⟩ := hd a Hr (h1 a Hr hR)
          refine ⟨fun u T => u = V ∧ T = [], fun w hc => atR_mono (hat w hc.2) fun u w' ⟨hu, hb⟩ => ⟨[], ⟨hu, rfl⟩, hb, Own.nil _, by simp⟩, ?_⟩
          rintro u T ⟨rfl, rfl⟩ _ _
          rw [more_nil]
          exact hl _ _ ((h1 a Hr hR).put o.dst hv ds) B W L hL
        · obtain ⟨Cs, hc1, hv, hat⟩ := hd a Hr (h1 a Hr hR)
          refine ⟨_, fun w hc => at2_of_A (hat w hc.2), ?_⟩
          rintro u T ⟨b, rfl, rfl⟩ hz hne
          rw [more_snoc]
          obtain ⟨vs, rfl, ht, hB, hn⟩ := h1 a Hr hR
          obtain ⟨vs', e, hv'⟩ := putA_rel (ht.grow [b]) o.dst (hv b)
          refine hl _ (Hr ++ [(b, Cs.toArray, t)]) ⟨vs', e, by rw [nums_snoc]; exact hv', by rw [nums_snoc]; exact (hB.grow _).snoc (hc1.grow _), ?_⟩ B W L fun a' Hr' hR' hx => hL a' Hr' hR' ?_
          · rw [nums_snoc, List.nodup_append]
            refine ⟨hn, by simp, fun x hx y hy => ?_⟩
            simp at hy
            subst hy
            simp only [nums, List.mem_map] at hx
            obtain ⟨p, hp, rfl⟩ := hx
            exact (hne _ p (List.mem_singleton.2 rfl) hp).symm
          · obtain ⟨σ, e1, e2⟩ := hx
            refine ⟨b :: σ, by rw [e1, nums_snoc]; simp, fun x hx => ?_⟩
            rcases List.mem_cons.1 hx with rfl | hx
            · exact hz _ (List.mem_singleton.2 rfl)
            · exact e2 x hx
        · cases hp
        · cases hp
      · rw [Bool.and_eq_true] at hm
        cases hgo : o.guard <;> simp [hgo] at hm hg
    · exact h.elim
  | (.p _, _) :: r, st, K, h => h.elim
  | (.c _, _) :: r, st, K, h => h.elim
  | (.gg _ _, _) :: r, st, K, h => h.elim
omit hE hC in
theorem planOf_ok {l : List Oper} {p : Plan} (h : planOf l = some p) : p.ok l = true := by
  unfold planOf at h
  simp only at h
  cases h1 : (planAt l (dropLate l.reverse).length).ok l <;> simp only [h1, cond_true, cond_false] at h
  · cases h2 : (planAt l l.length).ok l <;> simp only [h2, cond_true, cond_false] at h
    · cases h
    · cases h; exact h2
  · cases h; exact h1
/-- A region that draws its order. -/
theorem drawn_sound {id : Nat} {l : List Oper} {st : ASt} {K : ASt → Prop} (h : drawnP E call l st K) : ∃ st', K st' ∧ st'.m.lo = st.m.lo ∧ ∀ a Hr w, RelSt st a Hr → Own Hr w → ∀ Q : Exit → Act → World → Prop,
    (∀ a' Hr' w', RelSt st' a' Hr' → Own Hr' w' → Stp st.m.lo Hr w Hr' w' → Q .normal a' w') → (Code.region id l.toArray true).wp E.P Q a w := by
  unfold drawnP at h
  split at h
  · rename_i p hp
    obtain ⟨st1, h1, hlo1, h2⟩ := head_sound hE hC l p.ord st _ h
    obtain ⟨st2, h3, hlo2, h4⟩ := list_sound hE hC l (l.drop p.n) st1 K h1
    refine ⟨st2, h3, hlo2.trans hlo1, fun a Hr w hR hO Q hq => ?_⟩
    have hok := planOf_ok hp
    unfold Plan.ok at hok
    refine wp_region_grow (H := Hr) w.heap.size p.n 0 p.G p.T0 p.ord p.tl [] (by simp) (Nat.le_refl _) hE.mixed hok hO ?_
    refine h2 a Hr hR w.heap.size w.drew _ fun a' Hr' hR' hx w' hb hH => h4 a' Hr' w' hR' hH Q fun a2 Hr2 w2 hR2 hO2 hS2 => hq a2 Hr2 w2 hR2 hO2 ?_
    rw [hlo1] at hS2
    refine Stp.trans (v := w') (B := Hr') ?_ hS2
    exact ⟨hb.os, hb.tape, hb.output, hb.size, hx, fun k hk _ => hb.block k hk⟩
  · exact h.elim
end
end Go.Proofs.Ytojmifniidddpaa
