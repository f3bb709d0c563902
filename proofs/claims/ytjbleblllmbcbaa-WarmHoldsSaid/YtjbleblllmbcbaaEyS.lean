/- Slices that calls answer, loops that are unrolled, by the evaluator. No program of its own. No condition. -/
import Derived.Test.YtjbleblllmbcbaaEyG
import Derived.Test.YtjbleblllmbcbaaEyC
import Derived.LoopN
set_option linter.unusedVariables false
set_option linter.unusedSimpArgs false
namespace Go.Proofs.Ytjbleblllmbcbaa
open Go.RowKit

section
variable {D : List Deferred} {R R2 : Rws}
mutual
theorem Rel.rows {ρ : Nums} (hx : ∀ j r, R j = some r → R2 j = some r) : ∀ {v : AV} {V : Value}, Rel R ρ v V → Rel R2 ρ v V
  | _, _, .bool => .bool
  | _, _, .int => .int
  | _, _, .bv h => .bv h
  | _, _, .ptr h => .ptr h
  | _, _, .slice h => .slice h
  | _, _, .func h => .func (RelL.rows hx h)
  | _, _, .agg h => .agg (RelL.rows hx h)
  | _, _, .tuple h => .tuple (RelL.rows hx h)
  | _, _, .raw => .raw
  | _, _, .rsl h hc => .rsl (hx _ _ h) hc
  | _, _, .rptr h ha hi => .rptr (hx _ _ h) ha hi
  | _, _, .gsl h hn hz hm => .gsl h hn hz hm
  | _, _, .gptr h => .gptr h
  | _, _, .mp h => .mp h
  | _, _, .junk => .junk
theorem RelL.rows {ρ : Nums} (hx : ∀ j r, R j = some r → R2 j = some r) : ∀ {v : List AV} {V : List Value}, RelL R ρ v V → RelL R2 ρ v V
  | _, _, .nil => .nil
  | _, _, .cons h hs => .cons (Rel.rows hx h) (RelL.rows hx hs)
end
theorem RelB.rows {ρ : Nums} (hx : ∀ j r, R j = some r → R2 j = some r) {H : Mem} {Hr : List RBlk} (h : RelB R ρ H Hr) : RelB R2 ρ H Hr := ⟨h.1, fun l it p h1 h2 => by
  cases h.2 l it p h1 h2 with
  | cells hc => exact .cells (hc.rows hx)
  | row a b c d e => exact .row a b c d e
  | map a => exact .map a
  | gone => exact .gone⟩
theorem PatSt.rows {live : List (Nat × AV)} {n : Nat} {m : AM} {a : Act} {Hr : List RBlk} (hx : ∀ j r, R j = some r → R2 j = some r) (h : PatSt R D live n m a Hr) : PatSt R2 D live n m a Hr := by
  obtain ⟨r, vs, e, ht, hB, hn⟩ := h
  exact ⟨r, vs, e, RelL.rows hx ht, RelB.rows hx hB, hn⟩
theorem Bun.rows {Ds : List Nat} {n0 : Nat} {w0 : World} {H : Mem} {Hr : List RBlk} {w : World} (h : Bun R Ds n0 w0 H Hr w) (hd : Rd R2 ((nums Hr).map (·.b)) w) : Bun R2 Ds n0 w0 H Hr w := ⟨⟨h.own.1, hd⟩, h.marks, h.nodup, h.fresh, h.below, h.size⟩
/-- A variable that stands for something else too. -/
theorem PatSt.swap {live : List (Nat × AV)} {n d : Nat} {m : AM} {a : Act} {Hr : List RBlk} {V : Value} {v : AV} (h : PatSt R D ((d, .raw V) :: live) n m a Hr) (hv : Rel R (nums Hr) v V) : PatSt R D ((d, v) :: live) n m a Hr := by
  obtain ⟨r, vs, e, ht, hB, hn⟩ := h
  refine ⟨r, vs, e, ?_, hB, hn⟩
  have key : ∀ (k i : Nat) (us : List Value), RelL R (nums Hr) (pat ((d, .raw V) :: live) r i k) us → RelL R (nums Hr) (pat ((d, v) :: live) r i k) us := by
    intro k
    induction k with
    | zero => intro i us h; unfold pat at h ⊢; exact h
    | succ k ih =>
      intro i us h
      unfold pat at h ⊢
      cases h with | cons h1 h2 =>
      refine .cons ?_ (ih _ _ h2)
      unfold look at h1 ⊢
      cases hb : Nat.beq i d <;> simp only [hb, cond_true, cond_false] at h1 ⊢
      · exact h1
      · cases h1; exact hv
  exact key _ _ _ ht
end
def regOps : Code → List Oper
  | .region _ ops _ => ops.toList
  | _ => []
def isReg : Code → Bool
  | .region _ _ d => !d
  | _ => false
theorem wp_reg {P : Program} {c : Code} {Q : Exit → Act → World → Prop} {a : Act} {w : World} (hc : isReg c = true) (h : wpList P (regOps c).toArray Q (regOps c) a w) : c.wp P Q a w := by
  unfold isReg at hc
  split at hc
  · rename_i id ops d
    have hd : d = false := by simpa using hc
    subst hd
    simp only [regOps, Array.toArray_toList] at h
    exact wp_region_list h
  · cases hc
def isLp : Code → Bool
  | .loop _ => true
  | _ => false
def lpB : Code → Code
  | .loop c => c
  | _ => .skip
def isBk : Code → Bool
  | .block _ _ => true
  | _ => false
def bkI : Code → Nat
  | .block i _ => i
  | _ => 0
def bkB : Code → Code
  | .block _ c => c
  | _ => .skip
theorem wp_lp {P : Program} {c : Code} {Q : Exit → Act → World → Prop} {a : Act} {w : World} (n : Nat) (hc : isLp c = true) (h : Code.rounds P (lpB c) Q n a w) : c.wp P Q a w := by
  unfold isLp at hc
  split at hc
  · exact wp_loop_rounds n h
  · cases hc
theorem wp_bk {P : Program} {c : Code} {Q : Exit → Act → World → Prop} {a : Act} {w : World} (hc : isBk c = true) (h : (bkB c).wp P (Exit.inBlock (bkI c) Q) a w) : c.wp P Q a w := by
  unfold isBk at hc
  split at hc
  · exact wp_block h
  · cases hc
def eqE : AExit → AExit → Bool
  | .normal, .normal => true
  | .ret, .ret => true
  | .exit i, .exit j => Nat.beq i j
  | .goto i, .goto j => Nat.beq i j
  | _, _ => false
theorem eqE_eq {a b : AExit} (h : eqE a b = true) : a = b := by
  cases a <;> cases b <;> simp only [eqE] at h <;> first | rfl | (cases h; done) | (rw [Nat.eq_of_beq_eq_true h])
def chE (e0 : AExit) (live : List (Nat × AV)) (n : Nat) (H : Mem) (ds : List Bool) : AExit → ASt → Prop := fun e st =>
  (eqE e e0, st.tl.length, live.map (fun p => st.tl[p.1]?), st.m.H, st.m.ds) = (true, n, live.map (fun p => some p.2), H, ds)
section
variable {E : Env} (hE : EnvOK E) {Ds : List Nat} {n0 : Nat} {w0 : World}
include hE
/-- Code, however it ends. -/
theorem ev_codeE (nf : Nat) (e0 : AExit) {c : Code} {live live' : List (Nat × AV)} {n : Nat} {m : AM} {H' : Mem} {ds' : List Bool} (h : ∀ r, Is (evT E nf (.code c) ⟨pat live r 0 n, m⟩ (chE e0 live' n H' ds')))
    {a : Act} {Hr : List RBlk} {w : World} {Q : Exit → Act → World → Prop} (hP : PatSt E.rows (Ds.map markD) live n m a Hr) (hB : Bun E.rows Ds n0 w0 m.H Hr w)
    (hk : ∀ a' Hr' w', PatSt E.rows (Ds.map markD) live' n ⟨H', ds', m.wr⟩ a' Hr' → Bun E.rows Ds n0 w0 H' Hr' w' → Stp m.wr Hr w Hr' w' → Q e0.real a' w') : c.wp E.P Q a w := by
  obtain ⟨r, hR⟩ := hP
  obtain ⟨e, st', h1, hlo, hs⟩ := ev_sound hE nf (.code c) _ _ (h r).is
  refine wp_mono (hs a Hr w hR hB.own) ?_
  rintro e' a' w' ⟨rfl, Hr', hR', hO', hS⟩
  unfold chE at h1
  simp only [Prod.mk.injEq] at h1
  obtain ⟨he, hn, hl, rfl, rfl⟩ := h1
  rw [eqE_eq he]
  have hP' := patSt_of (live := live) hR' hn (lives_of hl)
  have hm : st'.m = ⟨st'.m.H, st'.m.ds, m.wr⟩ := by rw [← hlo]
  rw [hm] at hP'
  exact hk a' Hr' w' hP' (hB.stp hO' hS) hS
theorem list_sound2 {call : CallF} (hC : CallOK E call) (ops l2 : List Oper) : ∀ (l : List Oper) (st : ASt) (K : ASt → Prop), listP E call ops l st K → ∃ st', K st' ∧ st'.m.wr = st.m.wr ∧ ∀ {D : List Deferred} a Hr w, RelSt E.rows D st a Hr → OwnK E.rows st.m.H Hr w → ∀ Q : Exit → Act → World → Prop,
    (∀ a' Hr' w', RelSt E.rows D st' a' Hr' → OwnK E.rows st'.m.H Hr' w' → Stp st.m.wr Hr w Hr' w' → wpList E.P ops.toArray Q l2 a' w') → wpList E.P ops.toArray Q (l ++ l2) a w
  | [], st, K, h => ⟨st, h, rfl, fun a Hr w hR hO Q hq => hq a Hr w hR hO (.refl _ _ _)⟩
  | o :: r, st, K, h => by
    obtain ⟨st1, st2, hk, h1, h2, h3, h4⟩ := step_sound hE hC h
    obtain ⟨st', hK, hlo, hl⟩ := list_sound2 hC ops l2 r st2 K hk
    rcases h4 with ⟨hw, hd⟩ | ⟨_, hw, rfl⟩
    · refine ⟨st', hK, hlo.trans (hd.lo.trans h2), fun a Hr w hR hO Q hq => ?_⟩
      rw [List.cons_append]
      apply wpList_step
      intro Kn hKn
      rw [if_pos (hw a Hr hR)]
      refine did_seq hd (h1 a Hr hR) (by rw [h3]; exact hO) fun a' Hr' w' hR' hO' hS => hKn _ _ (hl a' Hr' w' hR' hO' Q fun a2 Hr2 w2 hR2 hO2 hS2 => hq a2 Hr2 w2 hR2 hO2 ?_)
      rw [hd.lo, h2] at hS2
      rw [h2] at hS
      exact hS.trans hS2
    · refine ⟨st', hK, hlo.trans h2, fun a Hr w hR hO Q hq => ?_⟩
      rw [List.cons_append]
      apply wpList_step
      intro Kn hKn
      rw [if_neg (by rw [hw a Hr hR]; simp)]
      obtain ⟨vs, rfl, ht, hB, hn⟩ := h1 a Hr hR
      rename_i D'
      obtain ⟨vs', e, hv⟩ := putA_rel (D := D') (v := undefA) (V := undef) ht o.dst .raw
      refine hKn _ _ (hl _ Hr w ⟨vs', e, hv, hB, hn⟩ (by show OwnK E.rows st1.m.H Hr w; rw [h3]; exact hO) Q fun a2 Hr2 w2 hR2 hO2 hS2 => hq a2 Hr2 w2 hR2 hO2 ?_)
      have : (st1.put o.dst undefA).m.wr = st.m.wr := h2
      rw [this] at hS2
      exact hS2
/-- The first operations of a list. -/
theorem ev_ops (nf k : Nat) {ops l : List Oper} {live live' : List (Nat × AV)} {n : Nat} {m : AM} {H' : Mem} {ds' : List Bool} (h : ∀ r, Is (listP E (callWith E (evT E nf)) ops (l.take k) ⟨pat live r 0 n, m⟩ (chK live' n H' ds' .normal)))
    {a : Act} {Hr : List RBlk} {w : World} {Q : Exit → Act → World → Prop} (hP : PatSt E.rows (Ds.map markD) live n m a Hr) (hB : Bun E.rows Ds n0 w0 m.H Hr w)
    (hk : ∀ a' Hr' w', PatSt E.rows (Ds.map markD) live' n ⟨H', ds', m.wr⟩ a' Hr' → Bun E.rows Ds n0 w0 H' Hr' w' → Stp m.wr Hr w Hr' w' → wpList E.P ops.toArray Q (l.drop k) a' w') : wpList E.P ops.toArray Q l a w := by
  obtain ⟨r, hR⟩ := hP
  obtain ⟨st', h1, hlo, h2⟩ := list_sound2 hE (call_ok hE (ev_sound hE nf)) ops (l.drop k) (l.take k) _ _ (h r).is
  rw [← List.take_append_drop k l]
  refine h2 a Hr w hR hB.own Q fun a' Hr' w' hR' hO' hS => ?_
  unfold chK at h1
  simp only [Prod.mk.injEq] at h1
  obtain ⟨_, hn, hl, rfl, rfl⟩ := h1
  have hP' := patSt_of (live := live') hR' hn (lives_of hl)
  have hm : st'.m = ⟨st'.m.H, st'.m.ds, m.wr⟩ := by rw [← hlo]
  rw [hm] at hP'
  have := hk a' Hr' w' hP' (hB.stp hO' hS) hS
  simpa using this
end
def evalCall (tl : List AV) : List Oper → Option (FuncId × List AV × Tmp)
  | ⟨some d, .call ⟨.value g, xs, _⟩, _, _, _, none⟩ :: _ => match evO tl g, evs (evO tl) xs.toList with
    | some (.func (.func f) cap), some vs => some (f, vs ++ cap, d)
    | _, _ => none
  | _ => none
theorem wpList_nil {P : Program} {ops : Array Oper} {Q : Exit → Act → World → Prop} {a : Act} {w : World} (h : Q .normal a w) : wpList P ops Q [] a w := h
theorem look_lt {live : List (Nat × AV)} {n i : Nat} {v : AV} (hk : live.all (fun p => Nat.blt p.1 n) = true) (h : look i live = some v) : i < n := by
  induction live with
  | nil => cases h
  | cons p r ih =>
    rw [List.all_cons, Bool.and_eq_true] at hk
    unfold look at h
    cases hb : Nat.beq i p.1 <;> simp only [hb, cond_true, cond_false] at h
    · exact ih hk.2 h
    · rw [Nat.eq_of_beq_eq_true hb]; have := hk.1; rwa [Nat.blt_eq] at this
/-- A call whose answer is told from outside. -/
theorem ev_call {E : Env} {Ds : List Nat} {n0 : Nat} {w0 : World} {ops l : List Oper} {live : List (Nat × AV)} {n d : Nat} {m : AM} {f : FuncId} {avs : List AV} {Post : Value → World → Prop} (hcall : ∀ r, evalCall (pat live r 0 n) l = some (f, avs, d)) (hd : d < n) (hkeys : live.all (fun p => Nat.blt p.1 n) = true) (hen : Enters E.P f)
    {a : Act} {Hr : List RBlk} {w : World} {Q : Exit → Act → World → Prop} (hP : PatSt E.rows (Ds.map markD) live n m a Hr) (hB : Bun E.rows Ds n0 w0 m.H Hr w)
    (hc : ∀ Args, RelL E.rows (nums Hr) avs Args → Calls E.P f Args.toArray w fun e w' => ∃ V, e = .returned V ∧ Below w.heap.size w w' ∧ Post V w')
    (hk : ∀ V a' w', Post V w' → Below w.heap.size w w' → PatSt E.rows (Ds.map markD) ((d, .raw V) :: live) n m a' Hr → Bun E.rows Ds n0 w0 m.H Hr w' → wpList E.P ops.toArray Q l.tail a' w') : wpList E.P ops.toArray Q l a w := by
  obtain ⟨r, vs, rfl, ht, hBl, hnd⟩ := hP
  have h := hcall r
  unfold evalCall at h
  split at h
  · rename_i dd g xs ts ty pos aft os
    split at h
    · rename_i f' cap us hg hvs
      simp only [Option.some.injEq, Prod.mk.injEq] at h
      obtain ⟨rfl, rfl, rfl⟩ := h
      have e1 := evO_sound (D := Ds.map markD) ht _ _ hg
      generalize hge : (⟨vs.toArray, Ds.map markD⟩ : Act).eval g = gv at e1
      cases e1 with | func hcaps =>
      rename_i caps
      have e2 := evs_sound (evO_sound (D := Ds.map markD) ht) hvs
      apply wpList_step
      intro Kn hKn
      rw [if_pos (by simp [Region.wanted])]
      have hrun := run_call (P := E.P) hen (g := g) (xs := xs) (ts := ts) hge (dst := some dd) (ty := ty) (pos := pos) (aft := aft) (gd := none) w
      unfold Oper.wp
      rw [hrun]
      simp only [Oper.upon]
      have hA : (xs.map (⟨vs.toArray, Ds.map markD⟩ : Act).eval ++ caps.toArray) = (xs.toList.map (⟨vs.toArray, Ds.map markD⟩ : Act).eval ++ caps).toArray := by
        apply Array.toList_inj.1; simp
      rw [hA]
      refine (hc _ (e2.append hcaps)).mono ?_
      rintro e w' ⟨V, rfl, hb, hp⟩
      refine hKn _ _ (hk V _ w' hp hb ?_ (hB.stp ⟨hB.own.1.grow hb, (Stp.of_below (wr := fun _ => false) hb).rd hB.own.2⟩ (.of_below (wr := fun _ => false) hb)))
      have hl := ht.len
      rw [pat_len] at hl
      refine patSt_of (live := live) (st := ⟨(pat live r 0 n).set dd (.raw V), m⟩) ⟨vs.set dd V, by simp [Act.put], ht.set .raw, hBl, hnd⟩ (by simp [pat_len]) (fun i v hv => ?_)
      unfold look at hv
      cases hb' : Nat.beq i dd <;> simp only [hb', cond_true, cond_false] at hv
      · have hne : i ≠ dd := Nat.ne_of_beq_eq_false hb'
        rw [List.getElem?_set_ne (Ne.symm hne)]
        have key : ∀ (k i0 : Nat), i0 ≤ i → i < i0 + k → (pat live r i0 k)[i - i0]? = some v := by
          intro k
          induction k with
          | zero => intro i0 h1 h2; omega
          | succ k ih =>
            intro i0 h1 h2
            unfold pat
            by_cases hi : i = i0
            · subst hi; simp [hv]
            · rw [show i - i0 = (i - (i0 + 1)) + 1 by omega]
              simpa using ih (i0 + 1) (by omega) (by omega)
        by_cases hin : i < n
        · simpa using key n 0 (Nat.zero_le _) (by omega)
        · exact absurd (look_lt hkeys hv) hin
      · rw [Nat.eq_of_beq_eq_true hb']; cases hv
        rw [List.getElem?_set_self (by rw [pat_len]; exact hd)]
    · cases h
  · cases h
/-! ### A row of words that a call answers. -/
def rowW (A : Option Addr) (xs : List (BitVec 256)) : RowI := ⟨A, xs.length, 4, fun i => wC (xs.getD i.toNat 0#256), fun i => [.int .u64 (L (xs.getD i 0#256) 0), .int .u64 (L (xs.getD i 0#256) 1), .int .u64 (L (xs.getD i 0#256) 2), .int .u64 (L (xs.getD i 0#256) 3)], []⟩
def rows1 (r : RowI) : Rws
  | 0 => some r
  | _ => none
theorem rows1_inv {r r' : RowI} {j : Nat} (h : rows1 r j = some r') : j = 0 ∧ r' = r := by
  cases j with
  | zero => exact ⟨rfl, (Option.some.inj h).symm⟩
  | succ j => cases h
end Go.Proofs.Ytjbleblllmbcbaa
