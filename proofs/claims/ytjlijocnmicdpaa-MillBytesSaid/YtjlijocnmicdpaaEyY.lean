/- Calls of yield, in a function that is ranged over: regions, lists of operations; what abides changes. No program of its own. No condition. -/
import Derived.Test.YtjlijocnmicdpaaEyQ
import Derived.StillTail
set_option linter.unusedVariables false
set_option linter.unusedSimpArgs false
namespace Go.Proofs.Ytjlijocnmicdpaa
open Go.RowKit

/-- At the outermost, or in a round. -/
def NF (F : Fence) : Prop := F = Fence.wide ∨ ∃ l, F = Fence.wide.inRound l
section
variable {P : Program} {F : Fence} {a : Act} {w : World} {Q : Exit → Act → World → Prop} {ops : Array Oper}
theorem operF (hF : NF F) (o : Oper) (hd : ∀ c, o.op ≠ .defer c) {K : Act → World → Prop} (h : o.wp P a w K Q) : o.wpIn F 0 P a w K Q := by
  rcases hF with rfl | ⟨l, rfl⟩
  · refine ⟨fun _ _ => trivial, ?_⟩
    rw [Oper.semAt_eq _ _ o hd]
    unfold Oper.wp at h
    cases hr : (execOp a.eval o).run P w with
    | ok x w' =>
      rw [hr] at h
      cases x <;> simp only [Oper.upon, Oper.uponIn] at h ⊢
      all_goals first
        | exact h
        | exact h.elim
        | exact ⟨fun h => by simp [Fence.wide] at h, callsIn_wide.2 h⟩
        | skip
      all_goals exact ⟨fun h => by simp [Fence.wide] at h, fun c cs _ => let ⟨v, w', r, s⟩ := h c cs; ⟨v, w', r, stepsIn_wide.2 s⟩⟩
    | halt x w' =>
      rw [hr] at h
      cases x <;> simp only [Oper.upon, Oper.uponIn] at h ⊢ <;> first | exact h | exact h.elim
  · exact operIn o hd h
theorem opF (hF : NF F) (hd : ∀ (i : Nat) (o : Oper), ops[i]? = some o → ∀ c, o.op ≠ .defer c) (hq : ¬ LetsOut Q) {i : Nat} {K K' : Act → World → Prop} (hK : ∀ a w, K a w → K' a w) (h : wpOp P ops Q i K a w) : wpOpIn F 0 P ops Q i K' a w := by
  unfold wpOp at h
  unfold wpOpIn
  have hfn : ∀ f, F.fn f := by rcases hF with rfl | ⟨l, rfl⟩ <;> intro f <;> trivial
  cases ho : ops[i]? with
  | none => rw [ho] at h; exact hK _ _ h
  | some o =>
    rw [ho] at h
    simp only at h ⊢
    split
    · rename_i hw
      rw [if_pos hw] at h
      rcases h with h | h
      · exact operF hF o (hd i o ho) (Oper.wp_mono hK h)
      · exact absurd h.2 hq
    · rename_i hw
      rw [if_neg hw] at h
      exact ⟨fun f _ => hfn f, hK _ _ h⟩
theorem wpAnyIn_of_seq : ∀ (l : List Oper) (k : Nat) (listed : Array Bool) (a : Act) (w : World), (∀ j, l[j]? = ops[k + j]?) →
    Region.seqB .any ops l.length k listed = true → wpListIn F 0 P ops Q l a w → wpAnyIn F 0 P .any ops Q l.length listed a w
  | [], _, _, _, _, _, hB, h => ⟨by simpa [Region.seqB] using hB, h⟩
  | o :: l, k, listed, a, w, hl, hB, h => by
    have h0 : ops[k]? = some o := by simpa using (hl 0).symm
    simp only [List.length_cons, Region.seqB, Bool.and_eq_true, decide_eq_true_eq] at hB
    refine ⟨fun h1 => (by rw [hB.1] at h1; cases h1), fun i hi => ?_⟩
    rw [hB.1] at hi
    have hik : i = k := by simpa using hi
    subst hik
    have ih := fun a' w' h' => wpAnyIn_of_seq l (i + 1) (listed.setIfInBounds i true) a' w' (fun j => by have := hl (j + 1); simpa [Nat.add_assoc, Nat.add_comm 1 j] using this) hB.2 h'
    unfold wpListIn at h
    unfold wpOpIn
    simp only [h0]
    split
    · rename_i hw
      rw [if_pos hw] at h
      exact Oper.wpIn_mono ih h
    · rename_i hw
      rw [if_neg hw] at h
      exact ⟨h.1, ih _ _ h.2⟩
end
namespace Fw
variable {P : Program} {F : Fence} {ops : Array Oper} {St : WP} {kd : Nat → Nat} {n : Nat}
theorem wpAnyIn_of_G (hF : NF F) {Q : Exit → Act → World → Prop} (hd : ∀ (i : Nat) (o : Oper), ops[i]? = some o → ∀ c, o.op ≠ .defer c) (hq : ¬ LetsOut Q) {g : Nat} {L : Array Bool → Post} (hL : ∀ listed a S w, Stable S → S w → L listed a S → wpAnyIn F 0 P .any ops Q g listed a w) :
    ∀ (f : Nat) (listed : Array Bool) (a : Act) (S : WP) (w : World), Stable S → S w → wpAnyG P .any ops St kd n L f listed a S → wpAnyIn F 0 P .any ops Q (f + g) listed a w
  | 0, listed, a, S, w, hS, hC, h => by rw [Nat.zero_add]; exact hL _ _ _ _ hS hC h
  | f + 1, listed, a, S, w, hS, hC, h => by
    rw [show f + 1 + g = (f + g) + 1 by omega]
    exact ⟨fun h0 => absurd h0 h.1, fun i hi => opF hF hd hq (fun _ _ h => h) (wp_of_gOp hS hC (fun a' S' w' hS' hC' h' => wpAnyIn_of_G hF hd hq hL f _ a' S' w' hS' hC' h') (h.2 i hi).2)⟩
/-- A region that draws its order, whose tail may call what yields. -/
theorem regInY (hF : NF F) {a : Act} {w : World} {Q : Exit → Act → World → Prop} {id : Nat} {l : List Oper} (hd : noDefer l = true) (hq : ¬ LetsOut Q) (n C G : Nat) (T0 : List Row4) (ord : List (Mv × Nat)) (tl : List (Nat × Nat)) (St S : WP) (hSt : ∀ w, S w → St w) (hSS : Stable S) (hm : P.follows .mixedOrders = true) (hB : regionB .any l n C G T0 ord tl = true)
    (hO : S w.drew)
    (h : wpG P l.toArray St (fun a' S' => ∀ w', Stable S' → S' w' → wpListIn F 0 P l.toArray Q (l.drop n) a' w') (ord.map (·.1)) a S) : (Code.region id l.toArray true).wpIn F 0 P Q a w := by
  refine wpIn_region_any hm ?_
  show wpAnyIn F 0 P .any l.toArray Q l.toArray.size (Array.replicate l.toArray.size false) a w.drew
  simp only [regionB, Bool.and_eq_true] at hB
  obtain ⟨⟨⟨⟨⟨ht, hsel⟩, hT⟩, hlen⟩, hn⟩, hord⟩ := hB
  have hlen := Nat.eq_of_beq_eq_true hlen
  have hn := Nat.le_of_ble_eq_true hn
  have hdl : (l.drop n).length = l.length - n := by simp
  have inv0 : HeadInv .any l.toArray n (Array.replicate l.toArray.size false) :=
    ⟨by simp, fun j oj _ hl => (by rw [getD_replicate_false] at hl; cases hl), fun t _ ht => getD_in (by simpa using ht) (getD_replicate_false _ _)⟩
  have hL0 : Lst l.toArray 0 (Array.replicate l.toArray.size false) := ⟨by simp, fun j => by rw [getD_replicate_false]; simp⟩
  have HH := wpAnyG_of_walk (md := .any) hsel (tail_spec ht hT) (ord.map (·.1)) _ a _ ⟨hSS, hSt⟩ inv0 (order_spec ht ord 0 _ hL0 hord) h
  have := wpAnyIn_of_G (F := F) hF (Q := Q) (fun i o ho => noDefer_at hd ho) hq (g := l.length - n) (fun listed a' S w' hS hC hL => by
    have := wpAnyIn_of_seq (F := F) (Q := Q) (l.drop n) n listed a' w' (fun j => by simp [List.getElem?_drop]) (by rw [hdl]; exact hL.1) (hL.2 w' hS hC)
    rwa [hdl] at this) _ _ _ _ _ hSS hO HH
  rw [hlen, show n + (l.length - n) = l.toArray.size by simp; omega] at this
  exact this
end Fw
section
variable {P : Program} {F : Fence} {a : Act} {w : World} {Q : Exit → Act → World → Prop} {ops : Array Oper}
/-- A call of yield. -/
theorem list_yield (hF : NF F) {o : Oper} {rest : List Oper} {g : Operand} {xs : Array Operand} {ts : Array TypeId} {l : Nat} {args : Array Value} {Post : Ending → World → Prop} (hw : Region.wanted o (yielded ops a.tmps) = true) (ho : o.op = .call ⟨.value g, xs, ts⟩) (hg : a.eval g = .func (.yield l) #[] #[]) (hargs : xs.map a.eval = args)
    (hy : YieldAt Fence.wide 0 P l args w Post) (hk : ∀ e w', Post e w' → ∃ v, e = .returned v ∧ wpListIn F 0 P ops Q rest (a.put o.dst v) w') : wpListIn F 0 P ops Q (o :: rest) a w := by
  obtain ⟨fn, tmps, assign, body, hrun, hR⟩ := hy
  have hfn : ∀ f, F.fn f := by rcases hF with rfl | ⟨l, rfl⟩ <;> intro f <;> trivial
  have hdp : F.depth.isSome = true → 1 ≤ 0 := by rcases hF with rfl | ⟨l, rfl⟩ <;> intro h <;> cases h
  have hRF : RoundIn F 0 P l fn tmps assign body w Post := by rcases hF with rfl | ⟨l, rfl⟩ <;> exact hR
  unfold wpListIn
  rw [if_pos hw]
  refine ⟨fun f _ => hfn f, ?_⟩
  rw [Oper.semAt_eq _ _ o (fun c hc => by rw [ho] at hc; cases hc)]
  have hr : (execOp a.eval o).run P w = .ok (.round l fn tmps assign body) w := by
    obtain ⟨dst, op, ty, pos, aft, gd⟩ := o
    have ho : op = .call ⟨.value g, xs, ts⟩ := ho
    subst ho
    simp only [execOp, resolve, hg, Deferred.ofValue, Sem.run_bind, Sem.run_pure, Result.andThen_ok, invoke, hargs]
    simpa using hrun
  rw [hr]
  refine ⟨hdp, hRF.mono fun e w' he => ?_⟩
  obtain ⟨v, rfl, h⟩ := hk e w' he
  exact h
end
/-- What abides any change to blocks from B on abides many of them. -/
theorem any_all {β : Type} {B : Nat} {I : β → World → Prop} (hI : AnyFrom B I) {s : β} {W W' : World} (h : I s W) (hos : W'.os = W.os) (ht : W'.tape = W.tape) (ho : W'.output = W.output) (hsz : W.heap.size ≤ W'.heap.size) (hb : ∀ k, k < B → k < W.heap.size → W'.heap[k]? = W.heap[k]?) : I s W' := by
  -- as long as W' and hereafter like W' but for these places
  have key : ∀ (d lo : Nat) (W1 : World), I s W1 → W1.os = W'.os → W1.tape = W'.tape → W1.output = W'.output → W1.heap.size = W'.heap.size → B ≤ lo → (∀ k, k < lo ∨ lo + d ≤ k → W1.heap[k]? = W'.heap[k]?) → I s W' := by
    intro d
    induction d with
    | zero =>
      intro lo W1 h1 e1 e2 e3 e4 _ e6
      exact hI s W1 W' none h1 ⟨e1.symm, e2.symm, e3.symm, by rw [e4]; exact Nat.le_refl _, fun k _ _ => (e6 k (by omega)).symm⟩ (fun r e => by cases e)
    | succ d ih =>
      intro lo W1 h1 e1 e2 e3 e4 e5 e6
      rcases Nat.lt_or_ge lo W'.heap.size with hlt | hge
      · have hg : W1.grownBy (W1.putObj lo W'.heap[lo]) (some lo) := grownBy_putObj' W1 lo _
        refine ih (lo + 1) (W1.putObj lo W'.heap[lo]) (hI s W1 _ (some lo) h1 hg (fun r e => by cases e; exact e5)) e1 e2 e3 (by simpa [World.putObj] using e4) (by omega) (fun k hk => ?_)
        by_cases hkl : k = lo
        · subst hkl
          rw [World.putObj_heap_same (by rw [e4]; exact hlt), Array.getElem?_eq_getElem hlt]
        · rw [World.putObj_heap_other hkl]
          exact e6 k (by omega)
      · refine ih (lo + 1) W1 h1 e1 e2 e3 e4 (by omega) (fun k hk => ?_)
        by_cases hkl : k = lo
        · rw [Array.getElem?_eq_none (by omega), Array.getElem?_eq_none (by omega)]
        · exact e6 k (by omega)
  -- first only what is new
  have h0 : I s { W' with heap := W.heap ++ W'.heap.extract W.heap.size W'.heap.size } := hI s W _ none h ⟨hos, ht, ho, by simp, fun k hk _ => by simp [Array.getElem?_append_left hk]⟩ (fun r e => by cases e)
  refine key W.heap.size B _ h0 rfl rfl rfl (by simp; omega) (Nat.le_refl _) (fun k hk => ?_)
  rcases Nat.lt_or_ge k W.heap.size with hlt | hge
  · rcases hk with hk | hk
    · show (W.heap ++ W'.heap.extract W.heap.size W'.heap.size)[k]? = W'.heap[k]?
      rw [Array.getElem?_append_left hlt]; exact (hb k hk hlt).symm
    · omega
  · show (W.heap ++ W'.heap.extract W.heap.size W'.heap.size)[k]? = W'.heap[k]?
    rw [Array.getElem?_append_right hge, Array.getElem?_extract]
    rw [show W.heap.size + (k - W.heap.size) = k by omega]
    split
    · rfl
    · rw [Array.getElem?_eq_none (by omega)]
section
variable {D : List Deferred} {E : Env} (hE : EnvOK E)
include hE
/-- The head of a region that draws its order. -/
theorem ev_dhead {F : Fence} (hF : NF F) (nf : Nat) {id : Nat} {l : List Oper} {st : ASt} {K : ASt → Prop} {p : Plan} (hp : p.ok l = true) (hd : noDefer l = true) (h : headP E (callWith E (evT E nf)) st.m.H.length (statOf E st l p.n p.ord) l p.ord st K) {a : Act} {Hr : List RBlk} {w : World} {Q : Exit → Act → World → Prop} (hq : ¬ LetsOut Q) (hR : RelSt E.rows D st a Hr) (hO : OwnK E.rows st.m.H Hr w)
    (hk : ∀ st' a' Hr' w', K st' → RelSt E.rows D st' a' Hr' → OwnK E.rows st'.m.H Hr' w' → Stp st.m.wr Hr w Hr' w' → wpListIn F 0 E.P l.toArray Q (l.drop p.n) a' w') : (Code.region id l.toArray true).wpIn F 0 E.P Q a w := by
  obtain ⟨st1, h1, hlo1, h2⟩ := head_sound hE (call_ok hE (ev_sound hE nf)) st.m.H.length (statOf E st l p.n p.ord) l p.ord st _ h
  have hok := hp
  unfold Plan.ok at hok
  have hBl : RelB E.rows (nums Hr) st.m.H Hr := by obtain ⟨_, _, _, hB, _⟩ := hR; exact hB
  have hlen := hBl.len
  have hst := stat_of (E := E) (l := l) (n := p.n) (ord := p.ord) hBl
  have hdr := (Below.refl w.heap.size w).drew
  refine Fw.regInY hF hd hq p.n p.C p.G p.T0 p.ord p.tl (StP E.rows (statOf E st l p.n p.ord) Hr) (Cl E.rows st.m.wr Hr w st.m.H Hr) (cl_st hst) cl_stable hE.mixed hok ⟨⟨hO.1.grow hdr, hO.2.below' hdr⟩, .of_below hdr⟩ ?_
  refine h2 a Hr hR Hr w _ _ cl_stable (fun _ h => h) hlen hst fun a' Hr' S' hR' hS' w' hss hw' => ?_
  have hcl := hS' w' hw'
  exact hk st1 a' Hr' w' h1 hR' hcl.1 hcl.2
end
end Go.Proofs.Ytjlijocnmicdpaa
