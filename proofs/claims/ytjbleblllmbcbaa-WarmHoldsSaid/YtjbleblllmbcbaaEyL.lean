/- Operations one behind the other. No program of its own. No condition. -/
import Derived.Test.YtjbleblllmbcbaaEyD
set_option linter.unusedVariables false
set_option linter.unusedSimpArgs false
namespace Go.Proofs.Ytjbleblllmbcbaa
open Go.RowKit
variable {D : List Deferred} {R : Rws}
/-- An operation that has come up in its turn. -/
theorem did_seq {P : Program} {R : Rws} {o : Oper} {st st' : ASt} (h : Did P R false o st st') {a : Act} {Hr : List RBlk} {w : World} (hR : RelSt R D st a Hr) (hO : OwnK R st.m.H Hr w) {Kn : Act → World → Prop} {Q : Exit → Act → World → Prop}
    (hk : ∀ a' Hr' w', RelSt R D st' a' Hr' → OwnK R st'.m.H Hr' w' → Stp st.m.wr Hr w Hr' w' → Kn a' w') : o.wp P a w Kn Q := by
  have hR' := hR
  obtain ⟨vs, rfl, ht, hB, hn⟩ := hR'
  rcases h with ⟨v, ds, rfl, h⟩ | ⟨_, v, it, mk, rfl, h⟩ | ⟨_, v, m', rfl, hwr, h⟩
  · obtain ⟨V, h1, h2⟩ := h _ _ hR
    obtain ⟨vs', e, hv⟩ := putA_rel ht o.dst h1
    exact wp_of_atR (h2 w hO) fun u w' ⟨hu, hb⟩ => by
      subst hu
      have hS : Stp st.m.wr Hr w Hr w' := .of_below hb
      exact hk _ Hr w' ⟨vs', e, hv, hB, hn⟩ ⟨hO.1.grow hb, hS.rd hO.2⟩ hS
  · obtain ⟨ob, h1, h2, h3⟩ := h _ _ hR
    exact wp_of_atR (h3 w hO) fun u w' ⟨hu, hw⟩ => by
      subst hu; subst hw
      have hq := nums_snoc Hr ⟨w.heap.size, 0, ob⟩
      obtain ⟨vs', e, hv⟩ := putA_rel (ht.grow [(⟨w.heap.size, 0, ob⟩ : RBlk).num]) o.dst (h2 _)
      have hb := World.below_alloc w ob
      have hD := drop_one hq
      have hS : Stp st.m.wr Hr w (Hr ++ [⟨w.heap.size, 0, ob⟩]) (w.alloc ob) := ⟨hb.os, hb.tape, hb.output, hb.size, ⟨_, hD.1, fun q hq => by rw [hD.2] at hq; rw [List.mem_singleton.1 hq]; exact .inl (Nat.le_refl _)⟩, fun k hk _ => hb.block k hk⟩
      refine hk _ (Hr ++ [⟨w.heap.size, 0, ob⟩]) _ ⟨vs', e, by rw [hq]; exact hv, by rw [hq]; exact (hB.grow _).snoc ((h1 _).grow _), apart_new hn hO.1 hB.len (Nat.le_refl _)⟩ ⟨own_new hO.1 hB.len hb (heap_alloc_new w _), hS.rd hO.2⟩ hS
  · refine wp_of_atR (h _ Hr w hR hO) fun u w' ⟨Hr', h1, h2, h3, h4, h5⟩ => ?_
    obtain ⟨σ, hσ, _⟩ := h5.ext
    obtain ⟨vs', e, hv'⟩ := putA_rel (R := R) (ρ := nums Hr') (by rw [hσ]; exact ht.grow σ) o.dst h1
    exact hk _ Hr' w' ⟨vs', e, hv', h2, h3⟩ h4 h5
theorem wanted_some {ops : List Oper} {o : Oper} {tl : Array Value} {j d : Nat} {want b : Bool} (hg : o.guard = some (j, want)) (hd : (ops[j]?).bind (·.dst) = some d) (hv : tl[d]? = some (.bool b)) : Region.wanted o (yielded ops.toArray tl) = (b == want) := by
  unfold Region.wanted yielded
  rw [hg]
  have e : (ops.toArray[j]?).bind (·.dst) = some d := by simpa using hd
  simp only [e, Option.bind_some, hv]
  rfl
theorem guard_sound {ops : List Oper} {o : Oper} {st : ASt} {yes no : ASt → Prop} (h : guardP ops o st yes no) : ∃ st1, (∀ {D : List Deferred} a Hr, RelSt R D st a Hr → RelSt R D st1 a Hr) ∧ st1.m.wr = st.m.wr ∧ st1.m.H = st.m.H ∧
    ((yes st1 ∧ ∀ {D : List Deferred} a Hr, RelSt R D st a Hr → Region.wanted o (yielded ops.toArray a.tmps) = true) ∨ (o.guard ≠ none ∧ no st1 ∧ ∀ {D : List Deferred} a Hr, RelSt R D st a Hr → Region.wanted o (yielded ops.toArray a.tmps) = false)) := by
  unfold guardP at h
  split at h
  · rename_i hg
    exact ⟨st, fun _ _ h => h, rfl, rfl, .inl ⟨h, fun a Hr _ => by simp [Region.wanted, hg]⟩⟩
  · rename_i j want hg
    split at h
    · exact h.elim
    · rename_i d hd
      have key : ∀ (l b : Bool), st.tl[d]? = some (.bool l b) → ∀ {D : List Deferred} a Hr, RelSt R D st a Hr → Region.wanted o (yielded ops.toArray a.tmps) = (b == want) := by
        rintro l b hb D a Hr ⟨vs, rfl, ht, _, _⟩
        obtain ⟨V, h1, h2⟩ := ht.get hb
        obtain rfl := h2.bool_inv
        exact wanted_some hg hd (by simpa using h1)
      have hgn : o.guard ≠ none := by rw [hg]; simp
      split at h
      · rename_i b hb
        have k : ∀ {D : List Deferred} a Hr, RelSt R D st a Hr → Region.wanted o (yielded ops.toArray a.tmps) = (b == want) := key _ _ hb
        cases hw : (b == want) <;> simp only [hw, cond_true, cond_false] at h
        · exact ⟨st, fun _ _ h => h, rfl, rfl, .inr ⟨hgn, h, fun a Hr hR => by rw [k a Hr hR, hw]⟩⟩
        · exact ⟨st, fun _ _ h => h, rfl, rfl, .inl ⟨h, fun a Hr hR => by rw [k a Hr hR, hw]⟩⟩
      · rename_i b hb
        have k : ∀ {D : List Deferred} a Hr, RelSt R D st a Hr → Region.wanted o (yielded ops.toArray a.tmps) = (b == want) := key _ _ hb
        split at h
        · rename_i c ds hds
          obtain ⟨rfl, h⟩ := h
          have hsame : ∀ {D : List Deferred} a Hr, RelSt R D st a Hr → RelSt R D ⟨st.tl.set d (.bool true b), ⟨st.m.H, ds, st.m.wr⟩⟩ a Hr := by
            rintro D a Hr ⟨vs, rfl, ht, hB, hn⟩
            obtain ⟨V, h1, h2⟩ := ht.get hb
            obtain rfl := h2.bool_inv
            exact ⟨vs, rfl, ht.setSame h1 .bool, hB, hn⟩
          cases hw : (b == want) <;> simp only [hw, cond_true, cond_false] at h
          · exact ⟨⟨st.tl.set d (.bool true b), ⟨st.m.H, ds, st.m.wr⟩⟩, hsame, rfl, rfl, .inr ⟨hgn, h, fun a Hr hR => by rw [k a Hr hR, hw]⟩⟩
          · exact ⟨⟨st.tl.set d (.bool true b), ⟨st.m.H, ds, st.m.wr⟩⟩, hsame, rfl, rfl, .inl ⟨h, fun a Hr hR => by rw [k a Hr hR, hw]⟩⟩
        · exact h.elim
      · exact h.elim

/-- The static labels are those of these blocks. -/
def StOK (stat : Nat → Bool) (St Hr : List RBlk) : Prop := (∀ l, stat l = true → ∃ p, Hr[l]? = some p ∧ p ∈ St) ∧ ∀ p ∈ St, ∃ l, stat l = true ∧ Hr[l]? = some p
section
variable {E : Env} (hE : EnvOK E) {call : CallF} (hC : CallOK E call)
include hE hC
theorem doP_sound {p : Bool} {o : Oper} {st : ASt} {K : ASt → Prop} (h : doP E call p o st K) : ∃ st', K st' ∧ Did E.P E.rows p o st st' := by
  unfold doP at h
  split at h
  · rename_i g xs ts hop
    split at h
    · rename_i f cap vs hg hvs
      obtain ⟨v, m', h1, h2, hen, h3⟩ := callP_sound hE hC h
      refine ⟨_, h1, ?_⟩
      have hrun : ∀ {D : List Deferred} a Hr, RelSt E.rows D st a Hr → ∃ Args, RelL E.rows (nums Hr) (vs ++ cap) Args ∧ ∀ w, (execOp a.eval o).run E.P w = .ok (.enter f Args.toArray) w := by
        rintro D a Hr ⟨tv, rfl, ht, hB, hn⟩
        have e1 := evO_sound (D := D) ht _ _ hg
        generalize hge : (⟨tv.toArray, D⟩ : Act).eval g = gv at e1
        cases e1 with | func hcaps =>
        rename_i caps
        have e2 := evs_sound (evO_sound (D := D) ht) hvs
        refine ⟨_, e2.append hcaps, fun w => ?_⟩
        obtain ⟨dst, op, ty, pos, aft, gd⟩ := o
        subst hop
        rw [run_call hen hge w]
        congr 2
        apply Array.toList_inj.1
        simp
      rcases h3 with ⟨hm, V, hV, hc⟩ | ⟨hp, hc⟩
      · refine .inl ⟨v, m'.ds, ?_, @fun D a Hr hR => ?_⟩
        · obtain ⟨H', ds', lo'⟩ := m'; simp only at hm h2; subst hm; subst h2; rfl
        · obtain ⟨Args, ha, hr⟩ := hrun a Hr hR
          obtain ⟨tv, _, ht, hB, hn⟩ := hR
          exact ⟨V, Rel.of_told hV, fun w hO => at1_call (hr w) (hc Hr w Args ha hB hn hO)⟩
      · refine .inr (.inr ⟨hp, v, m', rfl, h2, @fun D a Hr w hR hO => ?_⟩)
        obtain ⟨Args, ha, hr⟩ := hrun a Hr hR
        obtain ⟨tv, _, ht, hB, hn⟩ := hR
        unfold atR Oper.wp
        rw [hr w]
        simp only [Oper.upon]
        refine (hc Hr w Args ha hB hn hO).mono ?_
        rintro e w' ⟨V, Hr', rfl, x1, x2, x3, x4, x5⟩
        exact ⟨V, rfl, Hr', x1, x2, x3, x4, x5⟩
    · exact h.elim
  · split at h
    · rename_i op hne r hop
      exact resP_sound hE hop h
    · exact h.elim
/-- One operation of a region: skipped or done. -/
theorem step_sound {p : Bool} {ops : List Oper} {o : Oper} {st : ASt} {K : ASt → Prop} (h : stepP E call p ops o st K) : ∃ st1 st', K st' ∧ (∀ {D : List Deferred} a Hr, RelSt E.rows D st a Hr → RelSt E.rows D st1 a Hr) ∧ st1.m.wr = st.m.wr ∧ st1.m.H = st.m.H ∧
    (((∀ {D : List Deferred} a Hr, RelSt E.rows D st a Hr → Region.wanted o (yielded ops.toArray a.tmps) = true) ∧ Did E.P E.rows p o st1 st') ∨ (o.guard ≠ none ∧ (∀ {D : List Deferred} a Hr, RelSt E.rows D st a Hr → Region.wanted o (yielded ops.toArray a.tmps) = false) ∧ st' = st1.put o.dst undefA)) := by
  obtain ⟨st1, h1, h2, h3, h4 | ⟨hgn, h4⟩⟩ := guard_sound h
  · obtain ⟨h5, h6⟩ := h4
    obtain ⟨st', h7, h8⟩ := doP_sound hE hC h5
    exact ⟨st1, st', h7, h1, h2, h3, .inl ⟨h6, h8⟩⟩
  · obtain ⟨h5, h6⟩ := h4
    exact ⟨st1, _, h5, h1, h2, h3, .inr ⟨hgn, h6, rfl⟩⟩
omit hE hC in
theorem Did.lo {P : Program} {p : Bool} {o : Oper} {st st' : ASt} (h : Did P R p o st st') : st'.m.wr = st.m.wr := by
  rcases h with ⟨v, ds, rfl, _⟩ | ⟨_, v, it, mk, rfl, _⟩ | ⟨_, v, m', rfl, h, _⟩ <;> first | rfl | exact h
theorem list_sound (ops : List Oper) : ∀ (l : List Oper) (st : ASt) (K : ASt → Prop), listP E call ops l st K → ∃ st', K st' ∧ st'.m.wr = st.m.wr ∧ ∀ {D : List Deferred} a Hr w, RelSt E.rows D st a Hr → OwnK E.rows st.m.H Hr w → ∀ Q : Exit → Act → World → Prop,
    (∀ a' Hr' w', RelSt E.rows D st' a' Hr' → OwnK E.rows st'.m.H Hr' w' → Stp st.m.wr Hr w Hr' w' → Q .normal a' w') → wpList E.P ops.toArray Q l a w
  | [], st, K, h => ⟨st, h, rfl, fun a Hr w hR hO Q hq => hq a Hr w hR hO (.refl _ _ _)⟩
  | o :: r, st, K, h => by
    obtain ⟨st1, st2, hk, h1, h2, h3, h4⟩ := step_sound hE hC h
    obtain ⟨st', hK, hlo, hl⟩ := list_sound ops r st2 K hk
    rcases h4 with ⟨hw, hd⟩ | ⟨_, hw, rfl⟩
    · refine ⟨st', hK, hlo.trans (hd.lo.trans h2), fun a Hr w hR hO Q hq => ?_⟩
      apply wpList_step
      intro Kn hKn
      rw [if_pos (hw a Hr hR)]
      refine did_seq hd (h1 a Hr hR) (by rw [h3]; exact hO) fun a' Hr' w' hR' hO' hS => hKn _ _ (hl a' Hr' w' hR' hO' Q fun a2 Hr2 w2 hR2 hO2 hS2 => hq a2 Hr2 w2 hR2 hO2 ?_)
      rw [hd.lo, h2] at hS2
      rw [h2] at hS
      exact hS.trans hS2
    · refine ⟨st', hK, hlo.trans h2, fun a Hr w hR hO Q hq => ?_⟩
      apply wpList_step
      intro Kn hKn
      rw [if_neg (by rw [hw a Hr hR]; simp)]
      obtain ⟨vs, rfl, ht, hB, hn⟩ := h1 a Hr hR
      obtain ⟨vs', e, hv⟩ := putA_rel (v := undefA) (V := undef) ht o.dst .raw
      refine hKn _ _ (hl _ Hr w ⟨vs', e, hv, hB, hn⟩ (show OwnK E.rows st1.m.H Hr w by rw [h3]; exact hO) Q fun a2 Hr2 w2 hR2 hO2 hS2 => hq a2 Hr2 w2 hR2 hO2 ?_)
      have : (st1.put o.dst undefA).m.wr = st.m.wr := h2
      rw [this] at hS2
      exact hS2
omit hE hC in
theorem RelSt.put {st : ASt} {a : Act} {Hr : List RBlk} (h : RelSt R D st a Hr) (d : Option Tmp) {v : AV} {V : Value} (hv : Rel R (nums Hr) v V) (ds : List Bool) : RelSt R D ⟨putA st.tl d v, ⟨st.m.H, ds, st.m.wr⟩⟩ (a.put d V) Hr := by
  obtain ⟨vs, rfl, ht, hB, hn⟩ := h
  obtain ⟨vs', e, hv'⟩ := putA_rel ht d hv
  exact ⟨vs', e, hv', hB, hn⟩
end
end Go.Proofs.Ytjbleblllmbcbaa
