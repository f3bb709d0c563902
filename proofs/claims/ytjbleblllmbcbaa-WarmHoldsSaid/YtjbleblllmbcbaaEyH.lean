/- The head of a region that draws its order. No program of its own. No condition. -/
import Derived.Test.YtjbleblllmbcbaaEyL
set_option linter.unusedVariables false
set_option linter.unusedSimpArgs false
namespace Go.Proofs.Ytjbleblllmbcbaa
open Go.RowKit
variable {D : List Deferred} {R : Rws}

/-- What is known of the world in the head: what lies there, and what has been written since. -/
def Cl (R : Rws) (wr : Nat → Bool) (Hr0 : List RBlk) (W : World) (H : Mem) (Hr : List RBlk) : Fw.WP := fun w => OwnK R H Hr w ∧ Stp wr Hr0 W Hr w
/-- What nobody in the head writes. -/
def StP (R : Rws) (stat : Option (Nat → Bool)) (Hr0 : List RBlk) : Fw.WP := fun w => (∀ (l : Nat) p, (stat.getD fun _ => false) l = true → Hr0[l]? = some p → w.heap[p.b]? = some p.o) ∧ Rd R ((nums Hr0).map (·.b)) w
def Stat (stat : Option (Nat → Bool)) (Hr0 : List RBlk) (H : Mem) (Hr : List RBlk) : Prop := ∀ l, (stat.getD fun _ => false) l = true → ∃ p cs t, Hr0[l]? = some p ∧ Hr[l]? = some p ∧ H[l]? = some (.cells cs t)
theorem Rd.below' {nb : List Nat} {u v : World} (hr : Rd R nb u) (h : Below u.heap.size u v) : Rd R nb v := fun j r hj b off ha h0 => by
  obtain ⟨h1, h2, h3⟩ := hr j r hj b off ha h0
  refine ⟨h1, Nat.lt_of_lt_of_le h2 h.size, fun i hi q u' hu => ?_⟩
  exact (World.cell?_of_block (a := ⟨b, off + i * r.s + q, none⟩) (h.block b h2)).trans (h3 i hi q u' hu)
theorem cl_stable {wr : Nat → Bool} {Hr0 : List RBlk} {W : World} {H : Mem} {Hr : List RBlk} : Fw.Stable (Cl R wr Hr0 W H Hr) := fun w w' ⟨h1, h2⟩ hb => ⟨⟨h1.1.grow hb, h1.2.below' hb⟩, h2.trans (.of_below hb)⟩
theorem Rd.sub {nb nb' : List Nat} {w : World} (h : Rd R nb w) (hs : ∀ b ∈ nb', b ∈ nb) : Rd R nb' w := fun j r hj b off ha h0 => by
  obtain ⟨h1, h2⟩ := h j r hj b off ha h0
  exact ⟨fun hm => h1 (hs b hm), h2⟩
theorem cl_st {wr : Nat → Bool} {stat : Option (Nat → Bool)} {Hr0 : List RBlk} {W : World} {H : Mem} {Hr : List RBlk} (hs : Stat stat Hr0 H Hr) : ∀ w, Cl R wr Hr0 W H Hr w → StP R stat Hr0 w := fun w ⟨h1, h2⟩ => by
  refine ⟨fun l p hl hp => ?_, h1.2.sub fun b hb => ?_⟩
  · obtain ⟨p', cs, t, e1, e2, e3⟩ := hs l hl
    rw [hp] at e1; cases e1
    exact (h1.1 l _ p e3 e2).2 rfl
  · obtain ⟨σ, e, _⟩ := h2.ext
    rw [e, List.map_append]
    exact List.mem_append_left _ hb
theorem Stat.snoc {stat : Option (Nat → Bool)} {Hr0 : List RBlk} {H : Mem} {Hr : List RBlk} (hs : Stat stat Hr0 H Hr) (it : List AIt) (p : List RBlk) : Stat stat Hr0 (H ++ it) (Hr ++ p) := fun l hl => by
  obtain ⟨q, cs, t, e1, e2, e3⟩ := hs l hl
  exact ⟨q, cs, t, e1, getElem?_append_some e2, getElem?_append_some e3⟩
/-- Less is known of less. -/
theorem cl_less {wr : Nat → Bool} {Hr0 : List RBlk} {W : World} {H : Mem} {Hr T : List RBlk} {I : Mem} (hl : Hr.length = H.length) {w0 : World} (h0 : Stp wr Hr0 W Hr w0) : ∀ w, Cl R wr Hr0 W (H ++ I) (Hr ++ T) w → Cl R wr Hr0 W H Hr w := fun w ⟨h1, h2⟩ => by
  refine ⟨⟨fun l it p g1 g2 => ?_, h1.2.sub fun b hb => ?_⟩, ⟨h2.os, h2.tape, h2.output, h2.size, h0.ext, h2.block⟩⟩
  · exact h1.1 l it p (getElem?_append_some g1) (getElem?_append_some g2)
  · simp only [nums, List.map_append, List.mem_append]
    exact .inl hb
/-- What has been done, whatever it is. -/
theorem did_any {P : Program} {R : Rws} {p : Bool} {o : Oper} {st st' : ASt} (h : Did P R p o st st') {a : Act} {Hr : List RBlk} {w : World} (hR : RelSt R D st a Hr) (hO : OwnK R st.m.H Hr w) :
    atR P o a w fun u w' => ∃ Hr', RelSt R D st' (a.put o.dst u) Hr' ∧ OwnK R st'.m.H Hr' w' ∧ Stp st.m.wr Hr w Hr' w' := by
  have hR' := hR
  obtain ⟨vs, rfl, ht, hB, hn⟩ := hR'
  rcases h with ⟨v, ds, rfl, h⟩ | ⟨_, v, it, mk, rfl, h⟩ | ⟨_, v, m', rfl, hwr, h⟩
  · obtain ⟨V, h1, h2⟩ := h _ _ hR
    obtain ⟨vs', e, hv⟩ := putA_rel ht o.dst h1
    refine atR_mono (h2 w hO) fun u w' ⟨hu, hb⟩ => ?_
    subst hu
    have hS : Stp st.m.wr Hr w Hr w' := .of_below hb
    exact ⟨Hr, ⟨vs', e, hv, hB, hn⟩, ⟨hO.1.grow hb, hS.rd hO.2⟩, hS⟩
  · obtain ⟨ob, h1, h2, h3⟩ := h _ _ hR
    refine atR_mono (h3 w hO) fun u w' ⟨hu, hw⟩ => ?_
    subst hu; subst hw
    have hq := nums_snoc Hr ⟨w.heap.size, 0, ob⟩
    obtain ⟨vs', e, hv⟩ := putA_rel (ht.grow [(⟨w.heap.size, 0, ob⟩ : RBlk).num]) o.dst (h2 _)
    have hb := World.below_alloc w ob
    have hD := drop_one hq
    have hS : Stp st.m.wr Hr w (Hr ++ [⟨w.heap.size, 0, ob⟩]) (w.alloc ob) := ⟨hb.os, hb.tape, hb.output, hb.size, ⟨_, hD.1, fun q hq => by rw [hD.2] at hq; rw [List.mem_singleton.1 hq]; exact .inl (Nat.le_refl _)⟩, fun k hk _ => hb.block k hk⟩
    exact ⟨Hr ++ [⟨w.heap.size, 0, ob⟩], ⟨vs', e, by rw [hq]; exact hv, by rw [hq]; exact (hB.grow _).snoc ((h1 _).grow _), apart_new hn hO.1 hB.len (Nat.le_refl _)⟩, ⟨own_new hO.1 hB.len hb (heap_alloc_new w _), hS.rd hO.2⟩, hS⟩
  · refine atR_mono (h _ Hr w hR hO) fun u w' ⟨Hr', h1, h2, h3, h4, h5⟩ => ?_
    obtain ⟨σ, hσ, _⟩ := h5.ext
    obtain ⟨vs', e, hv'⟩ := putA_rel (R := R) (ρ := nums Hr') (by rw [hσ]; exact ht.grow σ) o.dst h1
    exact ⟨Hr', ⟨vs', e, hv', h2, h3⟩, h4, h5⟩
theorem apart_fresh {H : Mem} {Hr : List RBlk} (ha : Apart H Hr) (hl : Hr.length = H.length) {it : AIt} {p : RBlk} (hf : ∀ q ∈ Hr, q.b ≠ p.b) : Apart (H ++ [it]) (Hr ++ [p]) := by
  have key : ∀ (l : Nat) jt q, (H ++ [it])[l]? = some jt → (Hr ++ [p])[l]? = some q → (l < H.length ∧ H[l]? = some jt ∧ Hr[l]? = some q ∧ q.b ≠ p.b) ∨ (l = H.length ∧ q = p) := fun l jt q h1 h2 => by
    rcases Nat.lt_trichotomy l H.length with hlt | heq | hgt
    · rw [List.getElem?_append_left hlt] at h1
      rw [List.getElem?_append_left (by rw [hl]; exact hlt)] at h2
      exact .inl ⟨hlt, h1, h2, hf q (List.mem_of_getElem? h2)⟩
    · subst heq
      rw [List.getElem?_append_right (by rw [hl]; exact Nat.le_refl _), hl, Nat.sub_self] at h2
      cases h2
      exact .inr ⟨rfl, rfl⟩
    · rw [List.getElem?_eq_none (by simp; omega)] at h1
      cases h1
  intro l m it1 it2 p1 p2 hne h1 h2 l1 l2 q1 q2 hb
  rcases key l it1 p1 h1 q1 with ⟨a1, a2, a3, a4⟩ | ⟨a1, a5⟩ <;> rcases key m it2 p2 h2 q2 with ⟨b1, b2, b3, b4⟩ | ⟨b1, b5⟩
  · exact ha l m it1 it2 p1 p2 hne a2 b2 l1 l2 a3 b3 hb
  · rw [b5] at hb; exact absurd hb a4
  · rw [a5] at hb; exact absurd hb.symm b4
  · omega
theorem mem_lt {H : Mem} {Hr : List RBlk} {w : World} (h : OwnM H Hr w) (hl : Hr.length = H.length) : ∀ q ∈ Hr, q.b < w.heap.size := fun q hq => by
  obtain ⟨l, hl2, e⟩ := List.mem_iff_getElem.1 hq
  exact own_lt h hl (l := l) (by rw [List.getElem?_eq_getElem hl2, e])
/-- What is known of one more block that is new. -/
theorem cl_more {wr : Nat → Bool} {Hr0 : List RBlk} {W w w1 : World} {H : Mem} {Hr : List RBlk} {c : Array Value} {t : TypeId} {b : Nat} {cs : List AV} (hl : Hr.length = H.length) (h : Cl R wr Hr0 W H Hr w) (h1 : Rd R [] w1 ∧ W.heap.size ≤ w1.heap.size) (hb : w1.heap.size ≤ b) (hB : Blk w b c t) : Cl R wr Hr0 W (H ++ [.cells cs t]) (Hr ++ [⟨b, 0, .cells c t (0, 0)⟩]) w := by
  obtain ⟨⟨ho, hd⟩, hS⟩ := h
  refine ⟨⟨own_new ho hl (Below.refl _ _) hB, fun j r hj b' off ha h0 => ?_⟩, ⟨hS.os, hS.tape, hS.output, hS.size, ?_, hS.block⟩⟩
  · obtain ⟨g1, g2⟩ := hd j r hj b' off ha h0
    refine ⟨fun hm => ?_, g2⟩
    rw [nums_snoc, List.map_append] at hm
    rcases List.mem_append.1 hm with hm | hm
    · exact g1 hm
    · have := (h1.1 j r hj b' off ha h0).2.1
      simp [RBlk.num] at hm
      omega
  · obtain ⟨σ, e, n⟩ := hS.ext
    refine ⟨σ ++ [(⟨b, 0, .cells c t (0, 0)⟩ : RBlk).num], by rw [nums_snoc, e, List.append_assoc], fun q hq => ?_⟩
    rcases List.mem_append.1 hq with hq | hq
    · exact n q hq
    · rw [List.mem_singleton.1 hq]
      exact .inl (Nat.le_trans h1.2 hb)
section
variable {E : Env} (hE : EnvOK E) {call : CallF} (hC : CallOK E call)
include hE hC
theorem head_sound (h0 : Nat) (stat : Option (Nat → Bool)) (ops : List Oper) : ∀ (ord : List (Mv × Nat)) (st : ASt) (K : ASt → Prop), headP E call h0 stat ops ord st K → ∃ st', K st' ∧ st'.m.wr = st.m.wr ∧ ∀ {D : List Deferred} a Hr, RelSt E.rows D st a Hr → ∀ (Hr0 : List RBlk) (W : World) (L : Fw.Post) (S : Fw.WP), Fw.Stable S → (∀ w, S w → Cl E.rows st.m.wr Hr0 W st.m.H Hr w) → Hr0.length = h0 → Stat stat Hr0 st.m.H Hr →
    (∀ a' Hr' S', RelSt E.rows D st' a' Hr' → (∀ w, S' w → Cl E.rows st.m.wr Hr0 W st'.m.H Hr' w) → L a' S') → Fw.wpG E.P ops.toArray (StP E.rows stat Hr0) L (ord.map (·.1)) a S
  | [], st, K, h => ⟨st, h, rfl, fun a Hr hR Hr0 W L S hSS hSC hl hs hL => hL a Hr S hR hSC⟩
  | (.q i, _) :: r, st, K, h => by
    unfold headP at h
    split at h
    · rename_i o ho
      cases hm : isMake o <;> simp only [hm, cond_true, cond_false] at h
      obtain ⟨st1, st2, hk, h1, h2, h3, h4⟩ := step_sound hE hC h
      obtain ⟨st', hK, hlo, hl⟩ := head_sound h0 stat ops r st2 K hk
      rcases h4 with ⟨hw, hd⟩ | ⟨_, hw, rfl⟩
      · refine ⟨st', hK, hlo.trans (hd.lo.trans h2), fun a Hr hR Hr0 W L S hSS hSC hlen hs hL => ?_⟩
        rcases hd with ⟨v, ds, rfl, hd⟩ | ⟨hm', _⟩ | ⟨hp, _⟩
        · obtain ⟨V, hv, hat⟩ := hd a Hr (h1 a Hr hR)
          have hnext := hl _ _ ((h1 a Hr hR).put o.dst hv ds) Hr0 W L S hSS (by rw [← h2] at hSC; rw [← h3] at hSC; exact hSC) hlen (by show Stat stat Hr0 st1.m.H Hr; rw [h3]; exact hs) (fun a' Hr' S' hR' hS' => hL a' Hr' S' hR' (by rw [← h2]; exact hS'))
          refine ⟨o, at_list ho, V, .inl ⟨hw a Hr hR, fun w hc => ?_⟩, ?_⟩
          · have hc := (hc.resolve_left (by simp)).2
            exact hat w (by rw [h3]; exact (hSC w hc).1)
          · exact hnext
        · rw [hm] at hm'; cases hm'
        · cases hp
      · refine ⟨st', hK, hlo.trans h2, fun a Hr hR Hr0 W L S hSS hSC hlen hs hL => ?_⟩
        have hnext := hl _ _ ((h1 a Hr hR).put o.dst (v := undefA) (V := undef) .raw st1.m.ds) Hr0 W L S hSS (by rw [← h2] at hSC; rw [← h3] at hSC; exact hSC) hlen (by show Stat stat Hr0 st1.m.H Hr; rw [h3]; exact hs) (fun a' Hr' S' hR' hS' => hL a' Hr' S' hR' (by rw [← h2]; exact hS'))
        refine ⟨o, at_list ho, undef, .inr ⟨hw a Hr hR, rfl⟩, ?_⟩
        exact hnext
    · exact h.elim
  | (.g i, _) :: r, st, K, h => by
    unfold headP at h
    split at h
    · rename_i o ho
      cases hm : (isMake o && o.guard.isNone) <;> simp only [hm, cond_true, cond_false] at h
      · cases hgs : (o.guard.isNone && stat.isNone) <;> simp only [hgs, cond_true, cond_false] at h
        rw [Bool.and_eq_true] at hgs
        have hg0 : o.guard = none := by simpa using hgs.1
        have hst0 : stat = none := by simpa using hgs.2
        subst hst0
        unfold genP at h
        split at h
        · rename_i g xs ts hop
          split at h
          · rename_i f cap us hg hvs
            obtain ⟨v, m', hk, hwr, hen, hcall⟩ := hC f (us ++ cap) _ _ h
            obtain ⟨st', hK, hlo, hl⟩ := head_sound h0 none ops r _ K hk
            refine ⟨st', hK, hlo, @fun D a Hr hR Hr0 W L S hSS hSC hlen hs hL => ?_⟩
            obtain ⟨tv, rfl, ht, hB, hn⟩ := hR
            have hs2 : ∀ H Hr', Stat none Hr0 H Hr' := fun H Hr' l hl => by simp at hl
            refine ⟨o, at_list ho, by simp [Region.wanted, hg0], fun u S' => ∃ Hr', RelSt E.rows D ⟨putA st.tl o.dst v, ⟨m'.H, m'.ds, st.m.wr⟩⟩ ((⟨tv.toArray, D⟩ : Act).put o.dst u) Hr' ∧ S' = fun w => S w ∧ Cl E.rows st.m.wr Hr0 W m'.H Hr' w, fun w hc => ?_, fun u S' ⟨Hr', hR', hS'⟩ => ?_⟩
            · have e1 := evO_sound (D := D) ht _ _ hg
              generalize hge : (⟨tv.toArray, D⟩ : Act).eval g = gv at e1
              cases e1 with | func hcaps =>
              rename_i caps
              have e2 := evs_sound (evO_sound (D := D) ht) hvs
              have hcl := hSC w hc
              have hc1 := hcall Hr w _ (e2.append hcaps) hB hn hcl.1
              obtain ⟨dst, op, ty, pos, aft, gd⟩ := o
              subst hop
              have hrun := run_call (P := E.P) hen (g := g) (xs := xs) (ts := ts) hge (dst := dst) (ty := ty) (pos := pos) (aft := aft) (gd := gd) w
              unfold atR Oper.wp
              rw [hrun]
              simp only [Oper.upon]
              have hA : (xs.map (⟨tv.toArray, D⟩ : Act).eval ++ caps.toArray) = (xs.toList.map (⟨tv.toArray, D⟩ : Act).eval ++ caps).toArray := by
                apply Array.toList_inj.1; simp
              rw [hA]
              refine hc1.mono ?_
              rintro e w' ⟨V, Hr', rfl, hv, hB', hn', hO', hS⟩
              obtain ⟨σ, hσ, _⟩ := hS.ext
              obtain ⟨vs', e3, hv'⟩ := putA_rel (R := E.rows) (D := D) (ρ := nums Hr') (by rw [hσ]; exact ht.grow σ) dst hv
              exact ⟨V, rfl, _, ⟨Hr', ⟨vs', e3, hv', hB', hn'⟩, rfl⟩, hSS _ _ hc ⟨hS.os, hS.tape, hS.output, hS.size, fun k hk => hS.block k hk (fun _ _ _ _ => rfl)⟩, hO', hcl.2.trans (hS.mono (fun l hl => by cases hl))⟩
            · subst hS'
              have hst : Fw.Stable (fun w => S w ∧ Cl E.rows st.m.wr Hr0 W m'.H Hr' w) := fun w w' ⟨x, y⟩ hbb => ⟨hSS _ _ x hbb, cl_stable _ _ y hbb⟩
              exact ⟨hst, fun w hw => hw.1, hl _ _ hR' Hr0 W L _ hst (fun w hw => hw.2) hlen (hs2 _ _) hL⟩
          · exact h.elim
        · exact h.elim
      obtain ⟨st1, st2, hk, h1, h2, h3, h4⟩ := step_sound hE hC h
      obtain ⟨st', hK, hlo, hl⟩ := head_sound h0 stat ops r st2 K hk
      rcases h4 with ⟨hw, hd⟩ | ⟨hg, _⟩
      · refine ⟨st', hK, hlo.trans (hd.lo.trans h2), fun a Hr hR Hr0 W L S hSS hSC hlen hs hL => ?_⟩
        refine ⟨o, at_list ho, hw a Hr hR, ?_⟩
        have hSC1 : ∀ w, S w → Cl E.rows st1.m.wr Hr0 W st1.m.H Hr w := by rw [h2, h3]; exact hSC
        rcases hd with ⟨v, ds, rfl, hd⟩ | ⟨_, v, it, mk, rfl, hd⟩ | ⟨hp, _⟩
        · obtain ⟨V, hv, hat⟩ := hd a Hr (h1 a Hr hR)
          have hnext := hl _ _ ((h1 a Hr hR).put o.dst hv ds) Hr0 W L S hSS hSC1 hlen (by show Stat stat Hr0 st1.m.H Hr; rw [h3]; exact hs) (fun a' Hr' S' hR' hS' => hL a' Hr' S' hR' (by rw [← h2]; exact hS'))
          refine ⟨fun u S' => u = V ∧ S' = S, fun w hc => atR_mono (hat w (hSC1 w hc).1) fun u w' ⟨hu, hb⟩ => ⟨S, ⟨hu, rfl⟩, hSS _ _ hc hb⟩, fun u S' ⟨hu, hS'⟩ => ?_⟩
          subst hu; subst hS'
          exact ⟨hSS, fun _ h => h, hnext⟩
        · obtain ⟨ob, hc1, hv, hat⟩ := hd a Hr (h1 a Hr hR)
          refine ⟨fun u S' => ∃ b w0, S w0 ∧ w0.heap.size ≤ b ∧ u = mk b ∧ S' = fun w => S w ∧ Cl E.rows st1.m.wr Hr0 W (st1.m.H ++ [it]) (Hr ++ [⟨b, 0, ob⟩]) w, fun w hc => atR_mono (hat w (hSC1 w hc).1) fun u w' ⟨hu, hw'⟩ => ?_, fun u S' ⟨b, w0, hw0, hb, hu, hS'⟩ => ?_⟩
          · subst hw'
            obtain ⟨vs, rfl, ht, hB, hn⟩ := h1 a Hr hR
            have hcl := hSC1 w hc
            have hb := World.below_alloc w ob
            have hD := drop_one (nums_snoc Hr ⟨w.heap.size, 0, ob⟩)
            have hS : Stp st1.m.wr Hr w (Hr ++ [⟨w.heap.size, 0, ob⟩]) (w.alloc ob) := ⟨hb.os, hb.tape, hb.output, hb.size, ⟨_, hD.1, fun q hq => by rw [hD.2] at hq; rw [List.mem_singleton.1 hq]; exact .inl (Nat.le_refl _)⟩, fun k hk _ => hb.block k hk⟩
            exact ⟨_, ⟨w.heap.size, w, hc, Nat.le_refl _, hu, rfl⟩, hSS _ _ hc hb, ⟨own_new hcl.1.1 hB.len hb (heap_alloc_new w _), hS.rd hcl.1.2⟩, hcl.2.trans hS⟩
          · subst hu; subst hS'
            obtain ⟨vs, rfl, ht, hB, hn⟩ := h1 a Hr hR
            have hq := nums_snoc Hr ⟨b, 0, ob⟩
            obtain ⟨vs', e, hv'⟩ := putA_rel (ht.grow [(⟨b, 0, ob⟩ : RBlk).num]) o.dst (hv _)
            have hown := (hSC1 w0 hw0).1.1
            refine ⟨fun w w' ⟨x, y⟩ hbb => ⟨hSS _ _ x hbb, cl_stable _ _ y hbb⟩, fun w hw => hw.1, ?_⟩
            exact hl _ (Hr ++ [⟨b, 0, ob⟩]) ⟨vs', e, by rw [hq]; exact hv', by rw [hq]; exact (hB.grow _).snoc ((hc1 _).grow _), apart_new hn hown hB.len hb⟩ Hr0 W L _ (fun w w' ⟨x, y⟩ hbb => ⟨hSS _ _ x hbb, cl_stable _ _ y hbb⟩) (fun w hw => hw.2) hlen ((show Stat stat Hr0 st1.m.H Hr by rw [h3]; exact hs).snoc _ _) (fun a' Hr' S' hR' hS' => hL a' Hr' S' hR' (by rw [← h2]; exact hS'))
        · cases hp
      · rw [Bool.and_eq_true] at hm
        cases hgo : o.guard <;> simp [hgo] at hm hg
    · exact h.elim
  | (.p i, _) :: r, st, K, h => by
    unfold headP at h
    split at h
    · rename_i o ho
      obtain ⟨st1, h1, h2, h3, h4⟩ := guard_sound (R := E.rows) h
      rcases h4 with ⟨h5, hw⟩ | ⟨_, h5, hw⟩
      · unfold calmP at h5
        split at h5
        · rename_i v cs hop
          obtain ⟨hcs, hk⟩ := allT_spec h5
          obtain ⟨st', hK, hlo, hl⟩ := head_sound h0 stat ops r _ K hk
          refine ⟨st', hK, hlo.trans h2, @fun D a Hr hR Hr0 W L S hSS hSC hlen hs hL => ?_⟩
          have hR1 := h1 a Hr hR
          obtain ⟨tv, rfl, ht, hB, hn⟩ := hR1
          obtain ⟨V, hv, hx⟩ := opA_sound (ρ := nums Hr) (H := []) (Hr := []) hE.rows hE.eqs ⟨rfl, fun l it p h => by simp at h⟩ (fun _ _ e => by simp at e) (evO_sound (D := D) ht) hop hcs
          have hnext := hl _ _ (RelSt.put ⟨tv, rfl, ht, hB, hn⟩ o.dst hv st1.m.ds) Hr0 W L S hSS (by rw [← h2] at hSC; rw [← h3] at hSC; exact hSC) hlen (by show Stat stat Hr0 st1.m.H Hr; rw [h3]; exact hs) (fun a' Hr' S' hR' hS' => hL a' Hr' S' hR' (by rw [← h2]; exact hS'))
          refine ⟨o, at_list ho, V, .inl ⟨hw _ Hr hR, fun w hc => ?_⟩, hnext⟩
          have hc := (hc.resolve_right (by simp)).2
          exact at1_run (hx w ⟨OwnM.nil _, hc.2.sub (by simp [nums])⟩)
        · split at h5
          · rename_i t x hop
            split at h5
            · rename_i l off hx
              cases hst : (stat.getD fun _ => false) l <;> simp only [hst, cond_true, cond_false] at h5
              split at h5
              · rename_i v hv
                obtain ⟨st', hK, hlo, hl⟩ := head_sound h0 stat ops r _ K h5
                refine ⟨st', hK, hlo.trans h2, @fun D a Hr hR Hr0 W L S hSS hSC hlen hs hL => ?_⟩
                have hR1 := h1 a Hr hR
                obtain ⟨tv, rfl, ht, hB, hn⟩ := hR1
                unfold loadA at hv
                simp only at hv
                split at hv
                · rename_i cs ty' hl'
                  obtain ⟨b, s0, Cs, e1, e2⟩ := hB.get hl'
                  obtain ⟨V, e3, e4⟩ := load_sound (P := E.P) hv e2
                  have hp := evO_sound (D := D) ht _ _ hx
                  generalize hge : (⟨tv.toArray, D⟩ : Act).eval x = pv at hp
                  cases hp with | ptr hb' =>
                  rw [nums_get e1] at hb'
                  obtain rfl := Option.some.inj hb'
                  have hnext := hl _ _ (RelSt.put ⟨tv, rfl, ht, hB, hn⟩ o.dst e3 st1.m.ds) Hr0 W L S hSS (by rw [← h2] at hSC; rw [← h3] at hSC; exact hSC) hlen (by show Stat stat Hr0 st1.m.H Hr; rw [h3]; exact hs) (fun a' Hr' S' hR' hS' => hL a' Hr' S' hR' (by rw [← h2]; exact hS'))
                  refine ⟨o, at_list ho, V, .inl ⟨hw _ Hr hR, fun w hc => ?_⟩, hnext⟩
                  have hc := (hc.resolve_right (by simp)).2
                  obtain ⟨p, cs', t', x1, x2, x3⟩ := hs l hst
                  rw [e1] at x2; cases x2
                  have hblk : Blk w b Cs.toArray ty' := hc.1 l _ hst x1
                  refine at1_run ?_
                  obtain ⟨dst, op, ty, pos, aft, gd⟩ := o
                  subst hop
                  have := e4 w _ _ hblk
                  simp [execOp, hge, Instr.loadAt, Instr.sureAddr, RBlk.num, this]
                · cases hv
              · exact h5.elim
            · exact h5.elim
          · exact h5.elim
      · obtain ⟨st', hK, hlo, hl⟩ := head_sound h0 stat ops r _ K h5
        refine ⟨st', hK, hlo.trans h2, fun a Hr hR Hr0 W L S hSS hSC hlen hs hL => ?_⟩
        have hnext := hl _ _ ((h1 a Hr hR).put o.dst (v := undefA) (V := undef) .raw st1.m.ds) Hr0 W L S hSS (by rw [← h2] at hSC; rw [← h3] at hSC; exact hSC) hlen (by show Stat stat Hr0 st1.m.H Hr; rw [h3]; exact hs) (fun a' Hr' S' hR' hS' => hL a' Hr' S' hR' (by rw [← h2]; exact hS'))
        exact ⟨o, at_list ho, undef, .inr ⟨hw a Hr hR, rfl⟩, hnext⟩
    · exact h.elim
  | (.c i, _) :: r, st, K, h => by
    unfold headP at h
    split at h
    · rename_i o ho
      cases hgd : o.guard.isNone <;> simp only [hgd, cond_true, cond_false] at h
      have hg0 : o.guard = none := by simpa using hgd
      split at h
      · -- anything
        obtain ⟨st2, hk, hd⟩ := doP_sound hE hC h
        obtain ⟨st', hK, hlo, hl⟩ := head_sound h0 none ops r _ K hk
        refine ⟨st', hK, hlo, @fun D a Hr hR Hr0 W L S hSS hSC hlen hs hL => ?_⟩
        have hs2 : ∀ H Hr', Stat none Hr0 H Hr' := fun H Hr' l hl => by simp at hl
        refine ⟨o, at_list ho, by simp [Region.wanted, hg0], fun u S' => ∃ Hr', RelSt E.rows D ⟨st2.tl, ⟨st2.m.H, st2.m.ds, st.m.wr⟩⟩ (a.put o.dst u) Hr' ∧ S' = Cl E.rows st.m.wr Hr0 W st2.m.H Hr', fun w hc => ?_, fun u S' ⟨Hr', hR', hS'⟩ => ?_⟩
        · refine atR_mono (did_any (st := ⟨st.tl, ⟨st.m.H, st.m.ds, fun l => st.m.wr l || Nat.ble h0 l⟩⟩) hd hR (hSC w hc).1) fun u w' ⟨Hr', x1, x2, x3⟩ => ?_
          exact ⟨_, ⟨Hr', x1, rfl⟩, x2, (hSC w hc).2.trans' (by rw [hlen]; exact x3)⟩
        · subst hS'
          exact ⟨cl_stable, cl_st (hs2 _ _), hl _ _ hR' Hr0 W L _ cl_stable (fun _ h => h) hlen (hs2 _ _) hL⟩
      · rename_i s
        split at h
        · rename_i l cs hop
          split at h
          · rename_i cs0 t hcs0
            cases hle2 : ((st.m.wr l || Nat.ble h0 l) && !s l) <;> simp only [hle2, cond_true, cond_false] at h
            rw [Bool.and_eq_true] at hle2
            have hns : s l = false := by simpa using hle2.2
            obtain ⟨st', hK, hlo, hl⟩ := head_sound h0 (some s) ops r _ K h
            refine ⟨st', hK, hlo, @fun D a Hr hR Hr0 W L S hSS hSC hlen hs hL => ?_⟩
            obtain ⟨tv, rfl, ht, hB, hn⟩ := hR
            obtain ⟨b, s0, Cs, Cs', ty, cs1, g1, g2, g3, g4, _, g5⟩ := opA_sound hE.rows hE.eqs hB (fun _ _ e => nums_get e) (evO_sound (D := D) ht) hop (by simp [Res.cs])
            rw [hcs0] at g1; cases g1
            have hN : nums (Hr.set l ⟨b, s0, .cells Cs'.toArray t (0, 0)⟩) = nums Hr := nums_set g2 (by simp [RBlk.num, cntO, g4])
            have hD := drop_all hN
            obtain ⟨vs', e, hv⟩ := putA_rel (D := D) (v := undefA) (V := undef) ht o.dst .raw
            have hstat : Stat (some s) Hr0 ((dropR l st.m.H).set l (.cells cs t)) (Hr.set l ⟨b, s0, .cells Cs'.toArray t (0, 0)⟩) := fun k hk => by
              obtain ⟨p, c1, t1, x1, x2, x3⟩ := hs k hk
              have hkl : l ≠ k := fun e => by
                subst e
                have hk : s l = true := hk
                rw [hns] at hk; cases hk
              refine ⟨p, c1, t1, x1, by rw [List.getElem?_set_ne hkl]; exact x2, ?_⟩
              rw [List.getElem?_set_ne hkl]
              unfold dropR dropI
              rw [List.getElem?_mapIdx, x3]
              have e1 : Nat.beq ((AIt.cells c1 t1).owner k) l = false := by
                rw [Bool.eq_false_iff]; intro e; exact hkl (Nat.eq_of_beq_eq_true e).symm
              simp [e1]
            have hrel : RelSt E.rows D ⟨putA st.tl o.dst undefA, ⟨(dropR l st.m.H).set l (.cells cs t), st.m.ds, st.m.wr⟩⟩ ((⟨tv.toArray, D⟩ : Act).put o.dst undef) (Hr.set l ⟨b, s0, .cells Cs'.toArray t (0, 0)⟩) :=
              ⟨vs', e, by rw [hN]; exact hv, by rw [hN]; exact (hB.dropI _).set (.cells g3), (apart_write (p' := ⟨b, s0, .cells Cs'.toArray t (0, 0)⟩) hn hcs0 rfl rfl g2 rfl).1⟩
            have hnext := hl _ _ hrel Hr0 W L _ cl_stable (fun _ h => h) hlen hstat hL
            refine ⟨o, at_list ho, by simp [Region.wanted, hg0], fun u S' => u = undef ∧ S' = Cl E.rows st.m.wr Hr0 W ((dropR l st.m.H).set l (.cells cs t)) (Hr.set l ⟨b, s0, .cells Cs'.toArray t (0, 0)⟩), fun w hc => ?_, fun u S' ⟨hu, hS'⟩ => ?_⟩
            · have hc := hSC w hc
              obtain ⟨w', r1, r2, r3⟩ := g5 w hc.1
              have hS : Stp (fun l => st.m.wr l || Nat.ble Hr0.length l) Hr w (Hr.set l ⟨b, s0, .cells Cs'.toArray t (0, 0)⟩) w' := stp_write g2 (by rw [hlen]; exact hle2.1) (same_grown r2) hD.1 (by rw [hD.2]; simp)
              exact atR_skip r1 ⟨_, ⟨rfl, rfl⟩, ⟨own_write hc.1.1 hn hB.len hcs0 rfl rfl g2 rfl (fun k _ hk => r2.block k hk) (by rw [r2.size]; exact Nat.le_refl _) r3, hS.rd hc.1.2⟩, hc.2.trans' hS⟩
            · subst hu; subst hS'
              exact ⟨cl_stable, cl_st hstat, hnext⟩
          · exact h.elim
        · exact h.elim
    · exact h.elim
  | (.gg i j, _) :: r, st, K, h => by
    unfold headP at h
    split at h
    · rename_i o1 o2 ho1 ho2
      cases hm : (o1.guard.isNone && o2.guard.isNone) <;> simp only [hm, cond_true, cond_false] at h
      rw [Bool.and_eq_true] at hm
      split at h
      · rename_i c1 t1 c2 t2 e1 e2
        obtain ⟨st', hK, hlo, hl⟩ := head_sound h0 stat ops r _ K h
        refine ⟨st', hK, hlo, @fun D a Hr hR Hr0 W L S hSS hSC hlen hs hL => ?_⟩
        obtain ⟨tv, rfl, ht, hB, hn⟩ := hR
        obtain ⟨C1, r1, x1⟩ := opA_sound hE.rows hE.eqs hB (fun _ _ e => nums_get e) (evO_sound (D := D) ht) e1 (by simp [Res.cs])
        obtain ⟨C2, r2, x2⟩ := opA_sound hE.rows hE.eqs hB (fun _ _ e => nums_get e) (evO_sound (D := D) ht) e2 (by simp [Res.cs])
        have g1 : o1.guard = none := by simpa using hm.1
        have g2 : o2.guard = none := by simpa using hm.2
        refine ⟨o1, o2, at_list ho1, at_list ho2, by simp [Region.wanted, g1], by simp [Region.wanted, g2], fun b => .pointer (some ⟨b, 0, none⟩), C1.toArray, t1, fun b => .pointer (some ⟨b, 0, none⟩), C2.toArray, t2, fun w hc => ?_, fun w hc => ?_, fun b1 b2 z1 z2 hne => ?_⟩
        · unfold atA atR Oper.wp
          rw [x1 w (hSC w hc).1]
          exact ⟨_, rfl, rfl, rfl⟩
        · unfold atA atR Oper.wp
          rw [x2 w (hSC w hc).1]
          exact ⟨_, rfl, rfl, rfl⟩
        · obtain ⟨w1, hw1, hz1⟩ := z1
          obtain ⟨w2, hw2, hz2⟩ := z2
          have hc1 := hSC w1 hw1
          have hc2 := hSC w2 hw2
          have hlen' := hB.len
          have hf1 : ∀ q ∈ Hr, q.b ≠ b1 := fun q hq => by have := mem_lt hc1.1.1 hlen' q hq; omega
          have hf2 : ∀ q ∈ Hr, q.b ≠ b2 := fun q hq => by have := mem_lt hc2.1.1 hlen' q hq; omega
          have hq1 := nums_snoc Hr ⟨b1, 0, .cells C1.toArray t1 (0, 0)⟩
          have hq2 := nums_snoc (Hr ++ [⟨b1, 0, .cells C1.toArray t1 (0, 0)⟩]) ⟨b2, 0, .cells C2.toArray t2 (0, 0)⟩
          have hnl : (nums Hr).length = st.m.H.length := by simp [nums, hlen']
          obtain ⟨vs1, e3, hv1⟩ := putA_rel (D := D) (ht.grow [(⟨b1, 0, .cells C1.toArray t1 (0, 0)⟩ : RBlk).num]) o1.dst (v := .ptr st.m.H.length 0) (V := .pointer (some ⟨b1, 0, none⟩)) (.ptr (q := (⟨b1, 0, .cells C1.toArray t1 (0, 0)⟩ : RBlk).num) (by rw [← hnl]; simp))
          obtain ⟨vs2, e4, hv2⟩ := putA_rel (D := D) (hv1.grow [(⟨b2, 0, .cells C2.toArray t2 (0, 0)⟩ : RBlk).num]) o2.dst (v := .ptr (st.m.H.length + 1) 0) (V := .pointer (some ⟨b2, 0, none⟩)) (.ptr (q := (⟨b2, 0, .cells C2.toArray t2 (0, 0)⟩ : RBlk).num) (by rw [← hnl]; simp))
          rw [e3, e4]
          have hB1 : RelB E.rows (nums Hr ++ [(⟨b1, 0, .cells C1.toArray t1 (0, 0)⟩ : RBlk).num]) (st.m.H ++ [.cells c1 t1]) (Hr ++ [⟨b1, 0, .cells C1.toArray t1 (0, 0)⟩]) := (hB.grow _).snoc (.cells (r1.grow _))
          have hB2 := (hB1.grow [(⟨b2, 0, .cells C2.toArray t2 (0, 0)⟩ : RBlk).num]).snoc (it := .cells c2 t2) (p := ⟨b2, 0, .cells C2.toArray t2 (0, 0)⟩) (.cells ((r2.grow _).grow _))
          have ha1 := apart_fresh (it := .cells c1 t1) (p := ⟨b1, 0, .cells C1.toArray t1 (0, 0)⟩) hn hlen' hf1
          have ha2 := apart_fresh (it := .cells c2 t2) (p := ⟨b2, 0, .cells C2.toArray t2 (0, 0)⟩) ha1 hB1.len (fun q hq => by
            rcases List.mem_append.1 hq with hq | hq
            · exact hf2 q hq
            · rw [List.mem_singleton.1 hq]; exact hne)
          have hst : Fw.Stable (Fw.With (Fw.With S b1 C1.toArray t1) b2 C2.toArray t2) := Fw.With.stable (Fw.With.stable hSS)
          refine hl _ (Hr ++ [⟨b1, 0, .cells C1.toArray t1 (0, 0)⟩] ++ [⟨b2, 0, .cells C2.toArray t2 (0, 0)⟩]) ⟨vs2, rfl, by rw [hq2, hq1]; exact hv2, by rw [hq2, hq1]; exact hB2, ha2⟩ Hr0 W L _ hst (fun w ⟨⟨y1, y2⟩, y3⟩ => ?_) hlen ((hs.snoc _ _).snoc _ _) hL
          exact cl_more hB1.len (cl_more hlen' (hSC w y1) ⟨hc1.1.2.sub (by simp), hc1.2.size⟩ hz1 y2) ⟨hc2.1.2.sub (by simp), hc2.2.size⟩ hz2 y3
      · exact h.elim
    · exact h.elim
end
end Go.Proofs.Ytjbleblllmbcbaa
