/- Functions that are ranged over, by the evaluator: what is known between two calls of yield; code, lists, regions, ranges. No program of its own. No condition. -/
import Derived.Test.YtjlijocnmicdpaaEyY
import Derived.LoopNIn
set_option linter.unusedVariables false
set_option linter.unusedSimpArgs false
set_option maxRecDepth 100000
namespace Go.Proofs.Ytjlijocnmicdpaa
open Go.RowKit

def wrZ (fz : List Nat) : Nat → Bool := fun l => !memN l fz
/-- What is known: the labels' blocks were made by the call (n0 on), below B or since V0 or else frozen; what S holds and what lies from B on is as it was at V0. -/
structure It (R : Rws) (base : Nums) (n0 : Nat) (S0 S : Nat → Prop) (B : Nat) (fz : List Nat) (V0 : World) (J : World → Prop) (H : Mem) (Hr : List RBlk) (V : World) : Prop where
  own : OwnK R H Hr V
  lab : ∀ (l : Nat) (q : Num), (nums Hr)[l]? = some q → q.ph = false → (n0 ≤ q.b ∧ (q.b < B ∨ V0.heap.size ≤ q.b ∨ memN l fz = true)) ∨ (S0 q.b ∧ memN l fz = true)
  n0v : n0 ≤ V0.heap.size
  sv : ∀ k, S k → k < V0.heap.size
  frz : ∀ k, S k → ∀ (l : Nat) (q : Num), (nums Hr)[l]? = some q → q.ph = false → q.b = k → memN l fz = true
  keep : Keep (fun b => S b ∨ B ≤ b) V0 V
  ext : ∃ σ, nums Hr = base ++ σ
  j : J V
abbrev AnyN (n0 : Nat) (J : World → Prop) : Prop := AnyFrom n0 (fun (_ : Unit) V => J V)
section
variable {R : Rws} {base : Nums} {n0 B : Nat} {S0 S : Nat → Prop} {fz : List Nat} {V0 V V' : World} {J : World → Prop} {H H' : Mem} {Hr Hr' : List RBlk}
theorem wrZ_f {l : Nat} (h : memN l fz = true) : wrZ fz l = false := by unfold wrZ; rw [h]; rfl
theorem It.stp (hJ : AnyN n0 J) (h : It R base n0 S0 S B fz V0 J H Hr V) (hO : OwnK R H' Hr' V') (hst : Stp (wrZ fz) Hr V Hr' V') : It R base n0 S0 S B fz V0 J H' Hr' V' := by
  obtain ⟨σ, hσ, hσ2⟩ := hst.ext
  have hsz := h.keep.size
  have new : ∀ (l : Nat) (q : Num), (nums Hr')[l]? = some q → q.ph = false → (nums Hr)[l]? = some q ∨ V.heap.size ≤ q.b ∨ ∃ (l' : Nat) (p : Num), (nums Hr)[l']? = some p ∧ p.ph = false ∧ p.b = q.b ∧ wrZ fz l' = true := fun l q hq hp => by
    rw [hσ] at hq
    rcases Nat.lt_or_ge l (nums Hr).length with hlt | hge
    · rw [List.getElem?_append_left hlt] at hq; exact .inl hq
    · rw [List.getElem?_append_right hge] at hq
      rcases hσ2 q (List.mem_of_getElem? hq) hp with g | g
      · exact .inr (.inl g)
      · exact .inr (.inr g)
  have hnv := h.n0v
  refine ⟨hO, fun l q hq hp => ?_, h.n0v, h.sv, fun k hk l q hq hp hb => ?_, ⟨hst.os.trans h.keep.os, hst.tape.trans h.keep.tape, hst.output.trans h.keep.output, Nat.le_trans hsz hst.size, fun k hk hl => ?_⟩, ?_, ?_⟩
  · rcases new l q hq hp with g | g | ⟨l', p, g1, g2, g3, g4⟩
    · exact h.lab l q g hp
    · exact .inl ⟨by omega, .inr (.inl (by omega))⟩
    · rcases h.lab l' p g1 g2 with ⟨a, b⟩ | ⟨_, b⟩
      · rw [g3] at a b
        refine .inl ⟨a, ?_⟩
        rcases b with b | b | b
        · exact .inl b
        · exact .inr (.inl b)
        · rw [wrZ_f b] at g4; cases g4
      · rw [wrZ_f b] at g4; cases g4
  · have hkv := h.sv k hk
    rcases new l q hq hp with g | g | ⟨l', p, g1, g2, g3, g4⟩
    · exact h.frz k hk l q g hp hb
    · omega
    · have := h.frz k hk l' p g1 g2 (g3.trans hb)
      rw [wrZ_f this] at g4; cases g4
  · refine (hst.block k (by omega) (fun l q hq hp hb => ?_)).trans (h.keep.block k hk hl)
    rcases hk with hk | hk
    · exact wrZ_f (h.frz k hk l q hq hp hb)
    · rcases h.lab l q hq hp with ⟨_, b⟩ | ⟨_, b⟩
      · rcases b with b | b | b
        · omega
        · omega
        · exact wrZ_f b
      · exact wrZ_f b
  · obtain ⟨τ, hτ⟩ := h.ext
    exact ⟨τ ++ σ, by rw [hσ, hτ, List.append_assoc]⟩
  · exact any_all hJ (s := ()) h.j hst.os hst.tape hst.output hst.size (fun k hk hl => hst.block k hl (fun l q hq hp hb => by
      rcases h.lab l q hq hp with ⟨a, _⟩ | ⟨_, b⟩
      · omega
      · exact wrZ_f b))
end
section
variable {D : List Deferred} {E : Env} (hE : EnvOK E) {F : Fence} (hF : NF F) {base : Nums} {n0 B : Nat} {S0 S : Nat → Prop} {fz : List Nat} {V0 w : World} {J : World → Prop} {H H' : Mem} {Hr : List RBlk} {a : Act} {Q : Exit → Act → World → Prop} {live live' : List (Nat × AV)} {n : Nat} {ds ds' : List Bool} {wr' : Nat → Bool}
include hE hF
theorem codeF (nf : Nat) {c : Code} {st : ASt} {K : AExit → ASt → Prop} (hin : inB c = true) (h : evT E nf (.code c) st K) : ∃ e st', K e st' ∧ st'.m.wr = st.m.wr ∧ ∀ {D : List Deferred} a Hr w, RelSt E.rows D st a Hr → OwnK E.rows st.m.H Hr w → c.wpIn F 0 E.P (Rch E.rows D e st' st.m.wr Hr w) a w := by
  rcases hF with rfl | ⟨l, rfl⟩
  · obtain ⟨e, st', h1, h2, h3⟩ := ev_sound hE nf (.code c) st K h
    exact ⟨e, st', h1, h2, fun a Hr w hR hO => wpIn_wide.2 (h3 a Hr w hR hO)⟩
  · exact ev_in hE l nf c st K hin h
/-- Code, however it ends. -/
theorem it_code (hJ : AnyN n0 J) (nf : Nat) (e0 : AExit) {c : Code} (hin : inB c = true) (h : ∀ r, Is (evT E nf (.code c) ⟨pat live r 0 n, ⟨H, ds, wrZ fz⟩⟩ (chE e0 live' n H' []))) (hP : PatSt E.rows D live n ⟨H, ds', wr'⟩ a Hr) (hB : It E.rows base n0 S0 S B fz V0 J H Hr w)
    (hk : ∀ a' Hr' w', PatSt E.rows D live' n ⟨H', [], wrZ fz⟩ a' Hr' → It E.rows base n0 S0 S B fz V0 J H' Hr' w' → Q e0.real a' w') : c.wpIn F 0 E.P Q a w := by
  obtain ⟨r, hR⟩ := hP
  obtain ⟨e, st', h1, hlo, hs⟩ := codeF hE hF nf hin (h r).is
  refine wpIn_mono (hs a Hr w hR hB.own) ?_
  rintro e' a' w' ⟨rfl, Hr', hR', hO', hS⟩
  unfold chE at h1
  simp only [Prod.mk.injEq] at h1
  obtain ⟨he, hn, hl, rfl, hds⟩ := h1
  rw [eqE_eq he]
  have hP' := patSt_of (live := live) hR' hn (lives_of hl)
  exact hk a' Hr' w' hP' (hB.stp hJ hO' hS)
theorem list_soundIn {call : CallF} (hC : CallOK E call) (ops l2 : List Oper) : ∀ (l : List Oper) (st : ASt) (K : ASt → Prop), noDefer l = true → listP E call ops l st K → ∃ st', K st' ∧ st'.m.wr = st.m.wr ∧ ∀ {D : List Deferred} a Hr w, RelSt E.rows D st a Hr → OwnK E.rows st.m.H Hr w → ∀ Q : Exit → Act → World → Prop,
    (∀ a' Hr' w', RelSt E.rows D st' a' Hr' → OwnK E.rows st'.m.H Hr' w' → Stp st.m.wr Hr w Hr' w' → wpListIn F 0 E.P ops.toArray Q l2 a' w') → wpListIn F 0 E.P ops.toArray Q (l ++ l2) a w
  | [], st, K, _, h => ⟨st, h, rfl, fun a Hr w hR hO Q hq => hq a Hr w hR hO (.refl _ _ _)⟩
  | o :: r, st, K, hnd, h => by
    have hfn : ∀ f, F.fn f := by rcases hF with rfl | ⟨l, rfl⟩ <;> intro f <;> trivial
    obtain ⟨st1, st2, hk, h1, h2, h3, h4⟩ := step_sound hE hC h
    have hnd' : noDefer r = true := by
      unfold noDefer at hnd ⊢
      rw [List.all_cons, Bool.and_eq_true] at hnd; exact hnd.2
    have hdo : ∀ c, o.op ≠ .defer c := fun c hc => by
      unfold noDefer at hnd
      rw [List.all_cons, Bool.and_eq_true, hc] at hnd; cases hnd.1
    obtain ⟨st', hK, hlo, hl⟩ := list_soundIn hC ops l2 r st2 K hnd' hk
    rcases h4 with ⟨hw, hd⟩ | ⟨_, hw, rfl⟩
    · refine ⟨st', hK, hlo.trans (hd.lo.trans h2), fun a Hr w hR hO Q hq => ?_⟩
      rw [List.cons_append]
      unfold wpListIn
      rw [if_pos (hw a Hr hR)]
      refine operF hF o hdo (did_seq hd (h1 a Hr hR) (by rw [h3]; exact hO) fun a' Hr' w' hR' hO' hS => hl a' Hr' w' hR' hO' Q fun a2 Hr2 w2 hR2 hO2 hS2 => hq a2 Hr2 w2 hR2 hO2 ?_)
      rw [hd.lo, h2] at hS2
      rw [h2] at hS
      exact hS.trans hS2
    · refine ⟨st', hK, hlo.trans h2, fun a Hr w hR hO Q hq => ?_⟩
      rw [List.cons_append]
      unfold wpListIn
      rw [if_neg (by rw [hw a Hr hR]; simp)]
      obtain ⟨vs, rfl, ht, hB, hn⟩ := h1 a Hr hR
      rename_i D'
      obtain ⟨vs', e, hv⟩ := putA_rel (D := D') (v := undefA) (V := undef) ht o.dst .raw
      refine ⟨fun f _ => hfn f, hl _ Hr w ⟨vs', e, hv, hB, hn⟩ (by show OwnK E.rows st1.m.H Hr w; rw [h3]; exact hO) Q fun a2 Hr2 w2 hR2 hO2 hS2 => hq a2 Hr2 w2 hR2 hO2 ?_⟩
      have : (st1.put o.dst undefA).m.wr = st.m.wr := h2
      rw [this] at hS2
      exact hS2
/-- The first operations of a list. -/
theorem it_ops (hJ : AnyN n0 J) (nf k : Nat) {ops l : List Oper} (hnd : noDefer (l.take k) = true) (h : ∀ r, Is (listP E (callWith E (evT E nf)) ops (l.take k) ⟨pat live r 0 n, ⟨H, ds, wrZ fz⟩⟩ (chK live' n H' [] .normal)))
    (hP : PatSt E.rows D live n ⟨H, ds', wr'⟩ a Hr) (hB : It E.rows base n0 S0 S B fz V0 J H Hr w)
    (hk : ∀ a' Hr' w', PatSt E.rows D live' n ⟨H', [], wrZ fz⟩ a' Hr' → It E.rows base n0 S0 S B fz V0 J H' Hr' w' → wpListIn F 0 E.P ops.toArray Q (l.drop k) a' w') : wpListIn F 0 E.P ops.toArray Q l a w := by
  obtain ⟨r, hR⟩ := hP
  obtain ⟨st', h1, hlo, h2⟩ := list_soundIn hE hF (call_ok hE (ev_sound hE nf)) ops (l.drop k) (l.take k) _ _ hnd (h r).is
  rw [← List.take_append_drop k l]
  refine h2 a Hr w hR hB.own Q fun a' Hr' w' hR' hO' hS => ?_
  unfold chK at h1
  simp only [Prod.mk.injEq] at h1
  obtain ⟨_, hn, hl, rfl, hds⟩ := h1
  have hP' := patSt_of (live := live') hR' hn (lives_of hl)
  have := hk a' Hr' w' hP' (hB.stp hJ hO' hS)
  simpa using this
/-- The head of a region that draws its order. -/
theorem it_dhead (hJ : AnyN n0 J) (nf : Nat) {id : Nat} {l : List Oper} {p : Plan} (hp : p.ok l = true) (hd : noDefer l = true) (hq : ¬ LetsOut Q) (h : ∀ r, Is (headP E (callWith E (evT E nf)) H.length (statOf E ⟨pat live r 0 n, ⟨H, ds, wrZ fz⟩⟩ l p.n p.ord) l p.ord ⟨pat live r 0 n, ⟨H, ds, wrZ fz⟩⟩ (chK live' n H' [] .normal)))
    (hP : PatSt E.rows D live n ⟨H, ds', wr'⟩ a Hr) (hB : It E.rows base n0 S0 S B fz V0 J H Hr w)
    (hk : ∀ a' Hr' w', PatSt E.rows D live' n ⟨H', [], wrZ fz⟩ a' Hr' → It E.rows base n0 S0 S B fz V0 J H' Hr' w' → wpListIn F 0 E.P l.toArray Q (l.drop p.n) a' w') : (Code.region id l.toArray true).wpIn F 0 E.P Q a w := by
  obtain ⟨r, hR⟩ := hP
  have hR : RelSt E.rows D ⟨pat live r 0 n, ⟨H, ds, wrZ fz⟩⟩ a Hr := hR
  refine ev_dhead hE hF nf hp hd (h r).is hq hR hB.own fun st' a' Hr' w' h1 hR' hO' hS => ?_
  unfold chK at h1
  simp only [Prod.mk.injEq] at h1
  obtain ⟨_, hn, hl, rfl, hds⟩ := h1
  exact hk a' Hr' w' (patSt_of (live := live') hR' hn (lives_of hl)) (hB.stp hJ hO' hS)
end
/-- What is called, if it is what yields. -/
def evalY (tl : List AV) : List Oper → Option (Nat × List AV × Tmp)
  | ⟨some d, .call ⟨.value g, xs, _⟩, _, _, _, none⟩ :: _ => match evO tl g, evs (evO tl) xs.toList with
    | some (.func (.yield l) []), some vs => some (l, vs, d)
    | _, _ => none
  | _ => none
/-- How a round of what is outside may end. -/
def YPost (S0 : Nat → Prop) (n0 : Nat) (Jt Jf : World → Prop) (V : World) : Ending → World → Prop := fun e W' => (e = .returned (.bool true) ∧ Jt W' ∧ Keep (fun b => S0 b ∨ n0 ≤ b) V W') ∨ (e = .returned (.bool false) ∧ Jf W' ∧ Keep (fun b => n0 ≤ b) V W')
theorem rel_forget {R : Rws} {ρ : Nums} {tl : List AV} {vs : List Value} (h : RelL R ρ tl vs) {d : Nat} {V : Value} {v : AV} (hd : vs[d]? = some V) (hv : v.val? = some V) : ∃ r, RelL noRows [] (pat [(d, v)] r 0 tl.length) vs := by
  have hlen := h.len
  have key : ∀ (vs : List Value), vs[d]? = some V → RelL noRows [] ((vs.map AV.raw).set d v) vs := by
    intro vs hd
    have hraw : ∀ vs : List Value, RelL noRows [] (vs.map AV.raw) vs := by
      intro vs
      induction vs with
      | nil => exact .nil
      | cons x vs ih => exact .cons .raw ih
    exact (hraw vs).setSame hd (Rel.of_val hv)
  have hd2 : d < vs.length := (List.getElem?_eq_some_iff.1 hd).1
  have h2 := pat_of (key vs hd) (live := [(d, v)]) (fun i u hu => by
    unfold look at hu
    cases hb : Nat.beq i d <;> simp only [hb, cond_true, cond_false] at hu
    · cases hu
    · rw [Nat.eq_of_beq_eq_true hb]; cases hu
      rw [List.getElem?_set_self (by simpa using hd2)])
  simpa [hlen] using h2
section
variable {D : List Deferred} {R : Rws} {P : Program} {F : Fence} (hF : NF F) {base : Nums} {n0 B : Nat} {S S0 : Nat → Prop} {fz : List Nat} {V0 V : World} {J Jt Jf : World → Prop} {H : Mem} {Hr : List RBlk} {a : Act} {Q : Exit → Act → World → Prop} {live : List (Nat × AV)} {n : Nat} {ds : List Bool} {wr' : Nat → Bool}
include hF
/-- A call of yield. -/
theorem it_yield {ops : Array Oper} {l : List Oper} {ly d : Nat} {avs : List AV} {args : Array Value} (hcall : ∀ r, evalY (pat live r 0 n) l = some (ly, avs, d)) (hd : d < n) (hkeys : live.all (fun p => Nat.blt p.1 n) = true) (hx : AV.plains? avs = some args.toList)
    (hSS : ∀ k, S k → S0 k ∨ n0 ≤ k) (hn0 : n0 ≤ B) (hRS : ∀ j r, R j = some r → 0 < r.n → ∀ b off, r.A = some ⟨b, off, none⟩ → S0 b)
    (hP : PatSt R D live n ⟨H, ds, wr'⟩ a Hr) (hB : It R base n0 S0 S B fz V0 J H Hr V)
    (hY : YieldAt Fence.wide 0 P ly args V (YPost S0 n0 Jt Jf V))
    (k1 : ∀ a' w', PatSt R D ((d, .bool true true) :: live) n ⟨H, [], wrZ fz⟩ a' Hr → It R base n0 S0 S B fz V0 Jt H Hr w' → wpListIn F 0 P ops Q l.tail a' w')
    (k2 : ∀ a' w', PatSt noRows D [(d, .bool true false)] n ⟨[], [], wrZ fz⟩ a' [] → It noRows [] n0 S0 (fun _ => False) B fz V0 Jf [] [] w' → wpListIn F 0 P ops Q l.tail a' w') : wpListIn F 0 P ops Q l a V := by
  obtain ⟨r, vs, rfl, ht, hBl, hnd⟩ := hP
  have h := hcall r
  unfold evalY at h
  split at h
  · rename_i dd g xs ts ty pos aft os
    split at h
    · rename_i l' us hg hvs
      simp only [Option.some.injEq, Prod.mk.injEq] at h
      obtain ⟨rfl, rfl, rfl⟩ := h
      have e1 := evO_sound (D := D) ht _ _ hg
      generalize hge : (⟨vs.toArray, D⟩ : Act).eval g = gv at e1
      cases e1 with | func hcaps =>
      cases hcaps
      have e2 := evs_sound (evO_sound (D := D) ht) hvs
      have hargs : xs.map (⟨vs.toArray, D⟩ : Act).eval = args := by
        apply Array.toList_inj.1
        rw [Array.toList_map]
        exact e2.plains hx
      have hl := ht.len
      rw [pat_len] at hl
      refine list_yield hF (l := l') (args := args) (by simp [Region.wanted]) rfl hge hargs hY fun e w' he => ?_
      rcases he with ⟨rfl, hjt, hkp⟩ | ⟨rfl, hjf, hkp⟩
      · refine ⟨_, rfl, k1 _ w' ?_ ?_⟩
        · refine patSt_of (live := live) (st := ⟨(pat live r 0 n).set dd (.bool true true), ⟨H, [], wrZ fz⟩⟩) ⟨vs.set dd (.bool true), by simp [Act.put], ht.set .bool, hBl, hnd⟩ (by simp [pat_len]) (fun i v hv => ?_)
          unfold look at hv
          cases hb' : Nat.beq i dd <;> simp only [hb', cond_true, cond_false] at hv
          · have hne : i ≠ dd := Nat.ne_of_beq_eq_false hb'
            rw [List.getElem?_set_ne (Ne.symm hne)]
            exact pat_get hv (look_lt hkeys hv)
          · rw [Nat.eq_of_beq_eq_true hb']; cases hv
            rw [List.getElem?_set_self (by rw [pat_len]; exact hd)]
        · refine ⟨⟨fun l it q g1 g2 hq => ?_, fun j rr hj b off hA h0 => ?_⟩, hB.lab, hB.n0v, hB.sv, hB.frz, hB.keep.trans (hkp.mono fun k hk => ?_), hB.ext, hjt⟩
          · obtain ⟨x1, x2⟩ := hB.own.1 l it q g1 g2 hq
            have hb : S0 q.b ∨ n0 ≤ q.b := (hB.lab l q.num (nums_get g2) hq).elim (fun h => .inr h.1) (fun h => .inl h.1)
            exact ⟨Nat.lt_of_lt_of_le x1 hkp.size, fun hv => (hkp.block q.b hb x1).trans (x2 hv)⟩
          · obtain ⟨y1, y2, y3⟩ := hB.own.2 j rr hj b off hA h0
            have hb := hkp.block b (.inl (hRS j rr hj h0 b off hA)) y2
            exact ⟨y1, Nat.lt_of_lt_of_le y2 hkp.size, fun i hi q u hu => (World.cell?_of_block (a := ⟨b, off + i * rr.s + q, none⟩) hb).trans (y3 i hi q u hu)⟩
          · rcases hk with hk | hk
            · exact hSS k hk
            · exact .inr (Nat.le_trans hn0 hk)
      · refine ⟨_, rfl, k2 _ w' ?_ ⟨⟨OwnM.nil _, rd_no _ _⟩, by simp [nums], hB.n0v, fun k hk => hk.elim, fun k hk => hk.elim, (hB.keep.mono fun k hk => .inr (hk.resolve_left id)).trans (hkp.mono fun k hk => Nat.le_trans hn0 (hk.resolve_left id)), ⟨[], rfl⟩, hjf⟩⟩
        have hset : (vs.set dd (.bool false))[dd]? = some (.bool false) := by rw [List.getElem?_set_self (by rw [hl]; exact hd)]
        obtain ⟨r2, hr2⟩ := rel_forget (ht.set (v := .bool false) (c := .bool true false) (i := dd) .bool) hset (v := .bool true false) rfl
        rw [List.length_set, pat_len] at hr2
        exact ⟨r2, vs.set dd (.bool false), by simp [Act.put], hr2, .nil, Apart.nil⟩
    · cases h
  · cases h
end
/-- A loop of N rounds. -/
theorem it_loop {P : Program} {F : Fence} {c : Code} {a : Act} {w : World} {Q : Exit → Act → World → Prop} (N : Nat) (inv : Nat → Act → World → Prop) (h0 : inv 0 a w) (hstep : ∀ k a w, k < N → inv k a w → c.wpIn F 0 P (Exit.then (inv (k + 1)) Q) a w) (hlast : ∀ a w, inv N a w → c.wpIn F 0 P (Exit.then (fun _ _ => False) Q) a w) : (Code.loop c).wpIn F 0 P Q a w := by
  refine wpIn_loop_rounds (N + 1) ?_
  have key : ∀ j k, k + j = N → ∀ a w, inv k a w → Code.roundsIn F 0 P c Q (j + 1) a w := by
    intro j
    induction j with
    | zero =>
      intro k hk a w h
      obtain rfl : k = N := by omega
      exact hlast a w h
    | succ j ih =>
      intro k hk a w h
      refine wpIn_mono (hstep k a w (by omega) h) fun e a' w' hq => ?_
      cases e <;> first | exact ih (k + 1) (by omega) a' w' hq | exact hq
  exact key N 0 (by omega) a w h0
/-- The blocks that an inner range leans on. -/
def Sin (S0 : Nat → Prop) (n0 : Nat) (fz : List Nat) (Hr : List RBlk) (w : World) : Nat → Prop := fun k => k < w.heap.size ∧ (S0 k ∨ (n0 ≤ k ∧ ∀ (l : Nat) (q : Num), (nums Hr)[l]? = some q → q.ph = false → q.b = k → memN l fz = true))
def ItR (R : Rws) (S0 : Nat → Prop) (Hr : List RBlk) (w : World) (H : Mem) (J : World → Prop) (V : World) : Prop := ∃ Hr1, nums Hr1 = nums Hr ∧ RelB R (nums Hr) H Hr1 ∧ Apart H Hr1 ∧ OwnM H Hr1 V ∧ J V ∧ Keep S0 w V
theorem rd_keep {R : Rws} {nb : List Nat} {S0 : Nat → Prop} {w V : World} (hr : Rd R nb w) (hk : Keep S0 w V) (hRS : ∀ j r, R j = some r → 0 < r.n → ∀ b off, r.A = some ⟨b, off, none⟩ → S0 b) : Rd R nb V := fun j rr hj b off hA h0 => by
  obtain ⟨y1, y2, y3⟩ := hr j rr hj b off hA h0
  have hb := hk.block b (hRS j rr hj h0 b off hA) y2
  exact ⟨y1, Nat.lt_of_lt_of_le y2 hk.size, fun i hi q u hu => (World.cell?_of_block (a := ⟨b, off + i * rr.s + q, none⟩) hb).trans (y3 i hi q u hu)⟩
theorem itR_any {R : Rws} {S0 : Nat → Prop} {n0 : Nat} {H0 : Mem} {Hr : List RBlk} {w : World} (hO : OwnM H0 Hr w) (hl0 : Hr.length = H0.length) (hn0 : n0 ≤ w.heap.size) {Hk : Nat → Mem} {J : Nat → World → Prop} (hJ : AnyFrom n0 J) (hS0 : ∀ k, S0 k → k < w.heap.size) : AnyFrom w.heap.size (fun k V => ItR R S0 Hr w (Hk k) (J k) V) := by
  rintro k V V' row ⟨Hr1, h1, h2, h3, h4, h5, h6⟩ hg hr
  refine ⟨Hr1, h1, h2, h3, fun l it q g1 g2 hq => ?_, hJ k V V' row h5 hg (fun r e => Nat.le_trans hn0 (hr r e)), any_keep (β := Unit) (fun k hk => .inl (hS0 k hk)) () V V' row h6 hg hr⟩
  obtain ⟨x1, x2⟩ := h4 l it q g1 g2 hq
  have hn : (nums Hr)[l]? = some q.num := by rw [← h1]; exact nums_get g2
  have hlt : q.b < w.heap.size := nums_lt hO hl0 hn hq
  refine ⟨Nat.lt_of_lt_of_le x1 hg.size, fun hv => ?_⟩
  rw [hg.block q.b x1 fun e => by have := hr _ e.symm; omega]
  exact x2 hv
/-- The end of a round. -/
theorem it_end {R : Rws} {D : List Deferred} {live : List (Nat × AV)} {n n0 : Nat} {H2 Hn : Mem} {ds : List Bool} {wr : Nat → Bool} {a : Act} {Hr Hr2 : List RBlk} {S0 : Nat → Prop} {fz fz2 : List Nat} {w V V3 : World} {J' : World → Prop} (hP : PatSt R D live n ⟨H2, ds, wr⟩ a Hr2) (hB : It R (nums Hr) n0 S0 (Sin S0 n0 fz Hr w) w.heap.size fz2 V J' H2 Hr2 V3) (hkw : Keep S0 w V) (hS0 : ∀ k, S0 k → k < w.heap.size)
    (htake : H2.take Hr.length = Hn) (hbd : bddH Hr.length (H2.take Hr.length) = true) : Keep (fun b => Sin S0 n0 fz Hr w b ∨ w.heap.size ≤ b) V V3 ∧ ItR R S0 Hr w Hn J' V3 := by
  obtain ⟨r, vs, rfl, ht, hBl, hnd⟩ := hP
  obtain ⟨σ, hσ⟩ := hB.ext
  have hHr0 : (nums Hr).length = Hr.length := by simp [nums]
  have hnt : nums (Hr2.take Hr.length) = nums Hr := by
    have : nums (Hr2.take Hr.length) = (nums Hr2).take Hr.length := by simp [nums, List.map_take]
    rw [this, hσ, ← hHr0, List.take_left]
  subst htake
  refine ⟨hB.keep, Hr2.take Hr.length, hnt, ?_, ?_, ?_, hB.j, hkw.trans (hB.keep.mono fun k hk => .inl ⟨hS0 k hk, .inl hk⟩)⟩
  · rw [hσ] at hBl
    have hsh := hBl.take Hr.length
    rw [← hHr0] at hsh hbd ⊢
    exact RelB.shrink hbd hsh
  · intro k l jt kt x y hne h1 h2 v1 v2 q1 q2 z1 z2 hb
    rw [List.getElem?_take] at h1 h2 q1 q2
    split at h1
    · split at h2
      · rename_i c1 c2
        rw [if_pos c1] at q1; rw [if_pos c2] at q2
        exact hnd k l jt kt x y hne h1 h2 v1 v2 q1 q2 z1 z2 hb
      · cases h2
    · cases h1
  · intro l jt x h1 q1 hxp
    rw [List.getElem?_take] at h1 q1
    split at h1
    · rename_i c1
      rw [if_pos c1] at q1
      exact hB.own.1 l jt x h1 q1 hxp
    · cases h1
section
variable {D : List Deferred} {E : Env} (hE : EnvOK E)
include hE
/-- A range over a function, in a function that is ranged over itself: each round may yield. -/
theorem it_each (nf : Nat) {α : Type} {xs : List α} {encs : Nat → α → Array Value} {g : Operand} {ps : Array Tmp} {assign body : Code} {gf : Nat} {caps : List AV} {live : List (Nat × AV)} {n : Nat} {H : Mem} {wr' : Nat → Bool} {a : Act} {Hr : List RBlk} {w W0 : World} {base : Nums} {n0 : Nat} {S0 : Nat → Prop} {Q : Exit → Act → World → Prop}
    (hgf : ∀ r, evO (pat live r 0 n) g = some (.func (.func gf) caps)) (eg : Enters E.P gf) (hin : inB assign = true) (fz0 fz fz2 : List Nat)
    (hseq : ∀ lb, RelL E.rows (nums Hr) caps lb → Seq E.P gf lb.toArray encs xs (Sin S0 n0 fz Hr w) w)
    (xA : Nat → α → List AV) (hx : ∀ k x, xs[k]? = some x → AV.plains? (xA k x) = some (encs k x).toList) (hps : ∀ k x, (encs k x).size = ps.size)
    (Hk : Nat → Mem) (h0 : Hk 0 = H) (hlen : ∀ k, (Hk k).length = H.length)
    (J : Nat → World → Prop) (hJ : AnyFrom n0 J) (Jx : World → Prop) (hJx : AnyN n0 Jx) (cx : Code)
    (live1 : Nat → α → List (Nat × AV)) (H1 : Nat → α → Mem) (hf1 : ∀ l, memN l fz = true → memN l fz2 = true) (hf2 : ∀ k x l, H.length ≤ l → l < (H1 k x).length → memN l fz2 = true)
    (hassign : ∀ k x r, xs[k]? = some x → Is (evT E nf (.code assign) ⟨setps (pat live r 0 n) ps.toList (xA k x), ⟨Hk k, [], wrZ fz⟩⟩ (chE .normal (live1 k x) n (H1 k x) []))) (hnm : ∀ k x, noMap ((H1 k x).drop H.length) = true)
    (hbody : ∀ l' k x V a1 Hr1, xs[k]? = some x → PatSt E.rows [] (live1 k x) n ⟨H1 k x, [], wrZ fz2⟩ a1 Hr1 → It E.rows (nums Hr) n0 S0 (Sin S0 n0 fz Hr w) w.heap.size fz2 V (J k) (H1 k x) Hr1 V → Keep S0 w V →
      body.wpIn (Fence.wide.inRound l') 0 E.P (eachPost w.heap.size (Sin S0 n0 fz Hr w) (fun k V => ItR E.rows S0 Hr w (Hk k) (J k) V) (fun c _ V => c = cx ∧ Jx V) (k + 1) V) a1 V)
    (hP : PatSt E.rows D live n ⟨H, [], wr'⟩ a Hr) (hB : It E.rows base n0 S0 S0 n0 fz0 W0 (J 0) H Hr w) (hf0 : ∀ l, memN l fz0 = true → memN l fz = true) (hS0 : ∀ k, S0 k → k < n0) (hRS : ∀ j r, E.rows j = some r → 0 < r.n → ∀ b off, r.A = some ⟨b, off, none⟩ → S0 b)
    (hdone : ∀ W', J xs.length W' → W'.heap[w.heap.size]? = some (.deferred (some [])) → Q .normal { a with defers := { target := .collected w.heap.size, args := #[] } :: a.defers } W')
    (hstop : ∀ W', Jx W' → W'.heap[w.heap.size]? = some (.deferred (some [])) → cx.wp E.P Q { a with defers := { target := .collected w.heap.size, args := #[] } :: a.defers } W') :
    (Code.rangeFunc g ps assign body).wp E.P Q a w := by
  have hn0 : n0 ≤ w.heap.size := by have := hB.n0v; have := hB.keep.size; omega
  have hS0w : ∀ k, S0 k → k < w.heap.size := fun k hk => by have := hS0 k hk; omega
  obtain ⟨r, vs, rfl, ht, hBl, hnd⟩ := hP
  have hbl := hBl.len
  have hHr0 : (nums Hr).length = H.length := by rw [← hbl]; simp [nums]
  have hfl := evO_sound (D := D) ht _ _ (hgf r)
  generalize hge : (⟨vs.toArray, D⟩ : Act).eval g = gv at hfl
  cases hfl with | func hcaps =>
  rename_i lb
  have hlab0 : ∀ (l : Nat) (q : Num), (nums Hr)[l]? = some q → q.ph = false → (n0 ≤ q.b ∨ (S0 q.b ∧ memN l fz = true)) ∧ q.b < w.heap.size := fun l q hq hp => ⟨(hB.lab l q hq hp).imp (·.1) (fun h => ⟨h.1, hf0 l h.2⟩), nums_lt hB.own.1 hBl.len hq hp⟩
  refine wp_each (w0 := w) (xs := xs) (encs := encs) (S := Sin S0 n0 fz Hr w) hge (fun args w => eg args w) (hseq lb hcaps) (fun k hk => hk.1) (Keep.refl _ _) hps
    (fun k V => ItR E.rows S0 Hr w (Hk k) (J k) V) (fun c _ V => c = cx ∧ Jx V) (itR_any hB.own.1 hBl.len hn0 hJ hS0w) (fun c k V V' row ⟨h1, h2⟩ hg hr => ⟨h1, hJx () V V' row h2 hg (fun r e => Nat.le_trans hn0 (hr r e))⟩)
    ⟨Hr, rfl, by rw [h0]; exact hBl, by rw [h0]; exact hnd, by rw [h0]; exact hB.own.1, hB.j, Keep.refl _ _⟩ ?round (fun W' ⟨_, _, _, _, _, hj, _⟩ hm => hdone W' hj hm) (fun c k W' _ ⟨hc, hj⟩ hm => by subst hc; exact hstop W' hj hm)
  rintro l k x V hxk ⟨Hr1, hn1, hrel, hap, hown, hj, hkw⟩ hl
  have hRdV : Rd E.rows (bs (nums Hr)) V := rd_keep hB.own.2 hkw hRS
  have hOK : OwnK E.rows (Hk k) Hr1 V := ⟨hown, by rw [hn1]; exact hRdV⟩
  have hR0 : RelSt E.rows [] ⟨setps (pat live r 0 n) ps.toList (xA k x), ⟨Hk k, [], wrZ fz⟩⟩ { tmps := (ps.zip (encs k x)).foldl (fun (t : Array Value) (x : Tmp × Value) => t.setIfInBounds x.1 x.2) vs.toArray, defers := [] } Hr1 := by
    refine ⟨setvs vs ps.toList (encs k x).toList, ?_, ?_, ?_, hap⟩
    · have := setvs_act ps.toList (encs k x).toList vs
      rw [Array.toArray_toList, Array.toArray_toList] at this
      rw [this]
    · rw [hn1]; exact setps_rel ht (RelL.of_plains (hx k x hxk))
    · rw [hn1]; exact hrel
  have hIt0 : It E.rows (nums Hr) n0 S0 (Sin S0 n0 fz Hr w) w.heap.size fz V (J k) (Hk k) Hr1 V := by
    refine ⟨hOK, fun l q hq hp => ?_, Nat.le_trans hn0 hkw.size, fun k hk => Nat.lt_of_lt_of_le hk.1 hkw.size, fun k hk l q hq hp hb => ?_, Keep.refl _ _, ⟨[], by rw [hn1]; simp⟩, hj⟩
    · rw [hn1] at hq
      obtain ⟨x1, x2⟩ := hlab0 l q hq hp
      exact x1.imp (fun h => ⟨h, .inl x2⟩) id
    · rw [hn1] at hq
      rcases hk.2 with hk | hk
      · rcases (hlab0 l q hq hp).1 with h | h
        · have := hS0 k hk; omega
        · exact h.2
      · exact hk.2 l q hq hp hb
  have hJk : AnyN n0 (J k) := fun _ V V' row h hg hr => hJ k V V' row h hg hr
  obtain ⟨e, st1, hk1, hwr1, hs1⟩ := ev_in hE l nf assign _ _ hin (hassign k x r hxk).is
  refine wpIn_mono (hs1 _ Hr1 V hR0 hOK) ?_
  rintro e' a1 V1 ⟨rfl, Hr2, hR2, hO2, hS2⟩
  unfold chE at hk1
  simp only [Prod.mk.injEq] at hk1
  obtain ⟨he, hn, hlv, hH, hds⟩ := hk1
  rw [eqE_eq he]
  have hIt1 := hIt0.stp hJk hO2 hS2
  have hP1 := patSt_of (live := live) hR2 hn (lives_of hlv)
  have hBl2 : RelB E.rows (nums Hr2) st1.m.H Hr2 := by obtain ⟨_, _, _, hb, _⟩ := hR2; exact hb
  obtain ⟨σ, hσ⟩ := hIt1.ext
  have hH2 : (nums Hr2).length = st1.m.H.length := by rw [← hBl2.len]; simp [nums]
  refine ⟨hIt1.keep, fun V2 => OwnM st1.m.H Hr2 V2 ∧ J k V2 ∧ Keep S0 w V2, ?_, ⟨hO2.1, hIt1.j, hkw.trans (hIt1.keep.mono fun k hk => .inl ⟨hS0w k hk, .inl hk⟩)⟩, ?_⟩
  · intro u W W' row ⟨ho, hjj, hkk⟩ hg hr
    refine ⟨fun l it q g1 g2 hq => ?_, hJ k W W' row hjj hg (fun r e => Nat.le_trans hn0 (hr r e).1), any_keep (β := Unit) (fun k hk => .inl (hS0w k hk)) () W W' row hkk hg (fun r e => (hr r e).1)⟩
    obtain ⟨x1, x2⟩ := ho l it q g1 g2 hq
    refine ⟨Nat.lt_of_lt_of_le x1 hg.size, fun hv => ?_⟩
    rw [hg.block q.b x1 fun e => by
      obtain ⟨hge', o, ho1, ho2⟩ := hr _ e.symm
      rw [x2 hv] at ho1
      cases ho1
      have hrel := hBl2.2 l it q g1 g2
      have g4 := nums_get g2
      have hqn : q.num.b = q.b := rfl
      have hq' := hq
      generalize q.num = qn at g4 hqn hq'
      cases hrel with
      | cells _ _ => simp [Obj.isCells] at ho2
      | row _ _ _ _ _ => simp [Obj.isCells] at ho2
      | row0 h0 => rw [h0] at hq; cases hq
      | map _ _ =>
        rcases Nat.lt_or_ge l H.length with hlt | hge2
        · rw [hσ, List.getElem?_append_left (by rw [hHr0]; exact hlt)] at g4
          have := (hlab0 l qn g4 hq').2
          simp only at hqn hge'
          omega
        · have hnm' := hnm k x
          rw [← hH] at hnm'
          exact noMap_get hnm' (l := l - H.length) (by rw [List.getElem?_drop, Nat.add_sub_cancel' hge2]; exact g1)
      | gone => cases hv]
    exact x2 hv
  · rintro V2 ⟨ho, hjj, hkk⟩
    refine hbody l k x V2 a1 Hr2 hxk (by rw [← hH]; exact hP1) ?_ hkk
    rw [← hH]
    refine ⟨⟨ho, ?_⟩, fun l q hq hp => ?_, Nat.le_trans hn0 hkk.size, fun k hk => Nat.lt_of_lt_of_le hk.1 hkk.size, fun k hk l q hq hp hb => ?_, Keep.refl _ _, ⟨σ, hσ⟩, hjj⟩
    · intro j rr hj b off hA h0
      obtain ⟨y1, _, _⟩ := hO2.2 j rr hj b off hA h0
      obtain ⟨_, z2, z3⟩ := rd_keep hB.own.2 hkk hRS j rr hj b off hA h0
      exact ⟨y1, z2, z3⟩
    · refine (hIt1.lab l q hq hp).imp (fun h => ⟨h.1, ?_⟩) (fun h => ⟨h.1, hf1 l h.2⟩)
      rcases Nat.lt_or_ge l H.length with hlt | hge
      · rw [hσ, List.getElem?_append_left (by rw [hHr0]; exact hlt)] at hq
        exact .inl (hlab0 l q hq hp).2
      · exact .inr (.inr (hf2 k x l hge (by rw [← hH, ← hH2]; exact (List.getElem?_eq_some_iff.1 hq).1)))
    · exact hf1 l (hIt1.frz k hk l q hq hp hb)
end
/-- The way in. -/
theorem it_enter {R : Rws} {P : Program} {f : FuncId} {fn : Func} {c : Code} (hf : P.funcs[f]? = some fn) (hb : fn.body = some c) {l : Nat} {caps : List AV} {lb : List Value} (hn : caps.length + 1 ≤ fn.ntmps) {Hr : List RBlk} {H : Mem} {W : World} {S0 : Nat → Prop} {fz : List Nat} {J : World → Prop} {Q : Ending → World → Prop} (ha : RelL R (nums Hr) caps lb) (hBl : RelB R (nums Hr) H Hr) (hA : Apart H Hr) (hO : OwnM H Hr W) (hRd : Rd R (bs (nums Hr)) W)
    (hlab : ∀ (l : Nat) (q : Num), (nums Hr)[l]? = some q → q.ph = false → S0 q.b ∧ memN l fz = true) (hS0 : ∀ k, S0 k → k < W.heap.size) (hj : J W)
    (h : ∀ a, a.defers = [] → PatSt R [] (inLive 0 (AV.func (.yield l) [] :: caps)) fn.ntmps ⟨H, [], wrZ fz⟩ a Hr → It R (nums Hr) W.heap.size S0 S0 W.heap.size fz W J H Hr W → c.wp P (bodyPostM Fence.wide 0 P fn Q) a W) : Calls P f (#[.func (.yield l) #[] #[]] ++ lb.toArray) W Q := by
  refine calls_marks hf hb (h _ rfl ?_ ⟨⟨hO, hRd⟩, fun l q hq hp => .inr (hlab l q hq hp), Nat.le_refl _, hS0, fun k hk l q hq hp _ => (hlab l q hq hp).2, Keep.refl _ _, ⟨[], by simp⟩, hj⟩)
  have hl := ha.len
  have hR : RelSt R [] ⟨(AV.func (.yield l) [] :: caps) ++ List.replicate (fn.ntmps - (caps.length + 1)) undefA, ⟨H, [], wrZ fz⟩⟩ ⟨(#[Value.func (.yield l) #[] #[]] ++ lb.toArray) ++ Array.replicate (fn.ntmps - (#[Value.func (.yield l) #[] #[]] ++ lb.toArray).size) undef, []⟩ Hr := by
    refine ⟨(Value.func (.yield l) #[] #[] :: lb) ++ List.replicate (fn.ntmps - (caps.length + 1)) undef, ?_, RelL.append (RelL.cons (Rel.func (vs := []) .nil) ha) (RelL.rep .raw _), hBl, hA⟩
    congr 1
    apply Array.toList_inj.1
    simp [hl, Nat.add_comm]
  exact patSt_of (live := []) hR (by simp; omega) (fun i v hv => by
    obtain ⟨_, h2⟩ := look_in hv
    simp only [Nat.sub_zero] at h2
    rw [List.getElem?_append_left (List.getElem?_eq_some_iff.1 h2).1]; exact h2)
/-- A call of yield, as the outer range tells it. -/
theorem yield_at {P : Program} {l k : Nat} {args : Array Value} {V : World} {S S0 : Nat → Prop} {n0 : Nat} {J Jx : Nat → World → Prop} (h : YieldAt Fence.wide 0 P l args V fun e W' => (e = .returned (.bool true) ∧ J (k + 1) W' ∧ Keep (fun b => S b ∨ n0 ≤ b) V W') ∨ (e = .returned (.bool false) ∧ Jx (k + 1) W' ∧ Keep (fun b => n0 ≤ b) V W')) (hS : ∀ b, S0 b → S b) : YieldAt Fence.wide 0 P l args V (YPost S0 n0 (J (k + 1)) (Jx (k + 1)) V) := by
  obtain ⟨fn, tmps, assign, body, h1, h2⟩ := h
  refine ⟨fn, tmps, assign, body, h1, h2.mono fun e W' he => ?_⟩
  rcases he with ⟨a, b, c⟩ | he
  · exact .inl ⟨a, b, c.mono fun q hq => hq.imp (hS q) id⟩
  · exact .inr he
def isSc : Code → Bool
  | .scope _ => true
  | _ => false
def scB : Code → Code
  | .scope c => c
  | c => c
def isRf : Code → Bool
  | .rangeFunc _ _ _ _ => true
  | _ => false
def rfG : Code → Operand
  | .rangeFunc g _ _ _ => g
  | _ => .const undef
def rfP : Code → Array Tmp
  | .rangeFunc _ p _ _ => p
  | _ => #[]
def rfA : Code → Code
  | .rangeFunc _ _ a _ => a
  | c => c
def rfB : Code → Code
  | .rangeFunc _ _ _ b => b
  | c => c
def isDr : Code → Bool
  | .region _ _ true => true
  | _ => false
def isLs : Code → Bool
  | .region _ _ false => true
  | _ => false
def rgOps : Code → List Oper
  | .region _ ops _ => ops.toList
  | _ => []
section
variable {P : Program} {F : Fence} {c : Code} {Q : Exit → Act → World → Prop} {a : Act} {w : World}
theorem wp_sc (hc : isSc c = true) (h : (scB c).wp P (Exit.noGoto Q) a w) : c.wp P Q a w := by
  cases c <;> first | exact wp_scope_straight h | cases hc
theorem in_parts (hc : isSq c = true) (h : (sL c).wpIn F 0 P (Exit.then ((sR c).wpIn F 0 P Q) Q) a w) : c.wpIn F 0 P Q a w := by
  cases c <;> first | exact wpIn_seq h | cases hc
theorem in_bk (hc : isBk c = true) (h : (bkB c).wpIn F 0 P (Exit.inBlock (bkI c) Q) a w) : c.wpIn F 0 P Q a w := by
  cases c <;> first | exact wpIn_block h | cases hc
theorem in_lp (hc : isLp c = true) (h : (Code.loop (lpB c)).wpIn F 0 P Q a w) : c.wpIn F 0 P Q a w := by
  cases c <;> first | exact h | cases hc
theorem in_ls (hc : isLs c = true) (h : wpListIn F 0 P (rgOps c).toArray Q (rgOps c) a w) : c.wpIn F 0 P Q a w := by
  cases c <;> try cases hc
  rename_i id ops d
  cases d
  · exact wpIn_region_list (by simpa [rgOps] using h)
  · cases hc
theorem in_dr (hc : isDr c = true) (h : ∀ id, (Code.region id (rgOps c).toArray true).wpIn F 0 P Q a w) : c.wpIn F 0 P Q a w := by
  cases c <;> try cases hc
  rename_i id ops d
  cases d
  · cases hc
  · have := h id
    simpa [rgOps] using this
theorem wp_in (h : c.wpIn Fence.wide 0 P Q a w) : c.wp P Q a w := (wpIn_wide (n := 0)).1 h
theorem in_nil (h : Q .normal a w) {ops : Array Oper} : wpListIn F 0 P ops Q [] a w := h
theorem no_then {K : Act → World → Prop} (h : ¬ LetsOut Q) : ¬ LetsOut (Exit.then K Q) := fun ⟨a, w, h'⟩ => h ⟨a, w, h'⟩
theorem no_bk {i : Nat} (h : ¬ LetsOut Q) : ¬ LetsOut (Exit.inBlock i Q) := fun ⟨a, w, h'⟩ => h ⟨a, w, h'⟩
theorem no_each {B : Nat} {S : Nat → Prop} {I : Nat → World → Prop} {Ix : Code → Nat → World → Prop} {k : Nat} {W : World} : ¬ LetsOut (eachPost B S I Ix k W) := fun ⟨_, _, h⟩ => h
end
theorem rf_eq {c : Code} (hc : isRf c = true) : c = .rangeFunc (rfG c) (rfP c) (rfA c) (rfB c) := by
  cases c <;> first | rfl | cases hc
end Go.Proofs.Ytjlijocnmicdpaa
