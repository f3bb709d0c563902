/- Layer 03: ranges, bytes, works, laws. No condition. -/
import Derived.Test.YtoobfgahbndhjaaDoorEyQ
import Derived.StillTail
import Derived.LoopNIn
import Derived.OwnWalkIn
import Derived.TacticsInMore
import Derived.LoopIn
import Derived.Test.YtoobfgahbndhjaaDoorBitM2
import Derived.Laws.Bits64b
import Derived.Lib.TrailingZeros
import Derived.Test.YtoobfgahbndhjaaDoorBitM1
import Derived.Deep.MidRow
import Derived.Laws.Cover3
import Derived.Deep.WholeRow
import Derived.WalkSpells
import Derived.Test.YtoobfgahbndhjaaDoorRows
import Derived.ProofKit
import Derived.LaidMore
import Derived.OpenShut
import Derived.Stop.Joined
set_option linter.unusedVariables false
set_option linter.unusedSimpArgs false
set_option maxRecDepth 100000
set_option maxRecDepth 20000
namespace Go.Proofs.YtoobfgahbndhjaaDoor
open Go.RowKit

section
/-- At the outermost, or in a round. -/
def NF (F : Fence) : Prop := F = Fence.wide ∨ ∃ l, F = Fence.wide.inRound l
section
variable {P : Program} {F : Fence} {a : Act} {w : World} {Q : Exit → Act → World → Prop} {ops : Array Oper}
theorem operF (hF : NF F) (o : Oper) (hd : ∀ c, o.op ≠ .defer c) {K : Act → World → Prop} (h : o.wp P a w K Q) : o.wpIn F 0 P a w K Q := by
  rcases hF with rfl | ⟨l, rfl⟩
  · refine ⟨fun _ _ => trivial, ?_⟩
    rw [Oper.semAt_eq _ _ o hd]
    unfold Oper.wp at h
    cases hr : (execOp a.eval o).run P w with
    | ok x w' =>
      rw [hr] at h
      cases x <;> simp only [Oper.upon, Oper.uponIn] at h ⊢
      all_goals first
        | exact h
        | exact h.elim
        | exact ⟨fun h => by simp [Fence.wide] at h, callsIn_wide.2 h⟩
        | skip
      all_goals exact ⟨fun h => by simp [Fence.wide] at h, fun c cs _ => let ⟨v, w', r, s⟩ := h c cs; ⟨v, w', r, stepsIn_wide.2 s⟩⟩
    | halt x w' =>
      rw [hr] at h
      cases x <;> simp only [Oper.upon, Oper.uponIn] at h ⊢ <;> first | exact h | exact h.elim
  · exact operIn o hd h
theorem opF (hF : NF F) (hd : ∀ (i : Nat) (o : Oper), ops[i]? = some o → ∀ c, o.op ≠ .defer c) (hq : ¬ LetsOut Q) {i : Nat} {K K' : Act → World → Prop} (hK : ∀ a w, K a w → K' a w) (h : wpOp P ops Q i K a w) : wpOpIn F 0 P ops Q i K' a w := by
  unfold wpOp at h
  unfold wpOpIn
  have hfn : ∀ f, F.fn f := by rcases hF with rfl | ⟨l, rfl⟩ <;> intro f <;> trivial
  cases ho : ops[i]? with
  | none => rw [ho] at h; exact hK _ _ h
  | some o =>
    rw [ho] at h
    simp only at h ⊢
    split
    · rename_i hw
      rw [if_pos hw] at h
      rcases h with h | h
      · exact operF hF o (hd i o ho) (Oper.wp_mono hK h)
      · exact absurd h.2 hq
    · rename_i hw
      rw [if_neg hw] at h
      exact ⟨fun f _ => hfn f, hK _ _ h⟩
theorem wpAnyIn_of_seq : ∀ (l : List Oper) (k : Nat) (listed : Array Bool) (a : Act) (w : World), (∀ j, l[j]? = ops[k + j]?) →
    Region.seqB .any ops l.length k listed = true → wpListIn F 0 P ops Q l a w → wpAnyIn F 0 P .any ops Q l.length listed a w
  | [], _, _, _, _, _, hB, h => ⟨by simpa [Region.seqB] using hB, h⟩
  | o :: l, k, listed, a, w, hl, hB, h => by
    have h0 : ops[k]? = some o := by simpa using (hl 0).symm
    simp only [List.length_cons, Region.seqB, Bool.and_eq_true, decide_eq_true_eq] at hB
    refine ⟨fun h1 => (by rw [hB.1] at h1; cases h1), fun i hi => ?_⟩
    rw [hB.1] at hi
    have hik : i = k := by simpa using hi
    subst hik
    have ih := fun a' w' h' => wpAnyIn_of_seq l (i + 1) (listed.setIfInBounds i true) a' w' (fun j => by have := hl (j + 1); simpa [Nat.add_assoc, Nat.add_comm 1 j] using this) hB.2 h'
    unfold wpListIn at h
    unfold wpOpIn
    simp only [h0]
    split
    · rename_i hw
      rw [if_pos hw] at h
      exact Oper.wpIn_mono ih h
    · rename_i hw
      rw [if_neg hw] at h
      exact ⟨h.1, ih _ _ h.2⟩
end
namespace Fw
variable {P : Program} {F : Fence} {ops : Array Oper} {St : WP} {kd : Nat → Nat} {n : Nat}
theorem wpAnyIn_of_G (hF : NF F) {Q : Exit → Act → World → Prop} (hd : ∀ (i : Nat) (o : Oper), ops[i]? = some o → ∀ c, o.op ≠ .defer c) (hq : ¬ LetsOut Q) {g : Nat} {L : Array Bool → Post} (hL : ∀ listed a S w, Stable S → S w → L listed a S → wpAnyIn F 0 P .any ops Q g listed a w) :
    ∀ (f : Nat) (listed : Array Bool) (a : Act) (S : WP) (w : World), Stable S → S w → wpAnyG P .any ops St kd n L f listed a S → wpAnyIn F 0 P .any ops Q (f + g) listed a w
  | 0, listed, a, S, w, hS, hC, h => by rw [Nat.zero_add]; exact hL _ _ _ _ hS hC h
  | f + 1, listed, a, S, w, hS, hC, h => by
    rw [show f + 1 + g = (f + g) + 1 by omega]
    exact ⟨fun h0 => absurd h0 h.1, fun i hi => opF hF hd hq (fun _ _ h => h) (wp_of_gOp hS hC (fun a' S' w' hS' hC' h' => wpAnyIn_of_G hF hd hq hL f _ a' S' w' hS' hC' h') (h.2 i hi).2)⟩
/-- A region that draws its order, whose tail may call what yields. -/
theorem regInY (hF : NF F) {a : Act} {w : World} {Q : Exit → Act → World → Prop} {id : Nat} {l : List Oper} (hd : noDefer l = true) (hq : ¬ LetsOut Q) (n C G : Nat) (T0 : List Row4) (ord : List (Mv × Nat)) (tl : List (Nat × Nat)) (St S : WP) (hSt : ∀ w, S w → St w) (hSS : Stable S) (hm : P.follows .mixedOrders = true) (hB : regionB .any l n C G T0 ord tl = true)
    (hO : S w.drew)
    (h : wpG P l.toArray St (fun a' S' => ∀ w', Stable S' → S' w' → wpListIn F 0 P l.toArray Q (l.drop n) a' w') (ord.map (·.1)) a S) : (Code.region id l.toArray true).wpIn F 0 P Q a w := by
  refine wpIn_region_any hm ?_
  show wpAnyIn F 0 P .any l.toArray Q l.toArray.size (Array.replicate l.toArray.size false) a w.drew
  simp only [regionB, Bool.and_eq_true] at hB
  obtain ⟨⟨⟨⟨⟨ht, hsel⟩, hT⟩, hlen⟩, hn⟩, hord⟩ := hB
  have hlen := Nat.eq_of_beq_eq_true hlen
  have hn := Nat.le_of_ble_eq_true hn
  have hdl : (l.drop n).length = l.length - n := by simp
  have inv0 : HeadInv .any l.toArray n (Array.replicate l.toArray.size false) :=
    ⟨by simp, fun j oj _ hl => (by rw [getD_replicate_false] at hl; cases hl), fun t _ ht => getD_in (by simpa using ht) (getD_replicate_false _ _)⟩
  have hL0 : Lst l.toArray 0 (Array.replicate l.toArray.size false) := ⟨by simp, fun j => by rw [getD_replicate_false]; simp⟩
  have HH := wpAnyG_of_walk (md := .any) hsel (tail_spec ht hT) (ord.map (·.1)) _ a _ ⟨hSS, hSt⟩ inv0 (order_spec ht ord 0 _ hL0 hord) h
  have := wpAnyIn_of_G (F := F) hF (Q := Q) (fun i o ho => noDefer_at hd ho) hq (g := l.length - n) (fun listed a' S w' hS hC hL => by
    have := wpAnyIn_of_seq (F := F) (Q := Q) (l.drop n) n listed a' w' (fun j => by simp [List.getElem?_drop]) (by rw [hdl]; exact hL.1) (hL.2 w' hS hC)
    rwa [hdl] at this) _ _ _ _ _ hSS hO HH
  rw [hlen, show n + (l.length - n) = l.toArray.size by simp; omega] at this
  exact this
end Fw
section
variable {P : Program} {F : Fence} {a : Act} {w : World} {Q : Exit → Act → World → Prop} {ops : Array Oper}
/-- A call of yield. -/
theorem list_yield (hF : NF F) {o : Oper} {rest : List Oper} {g : Operand} {xs : Array Operand} {ts : Array TypeId} {l : Nat} {args : Array Value} {Post : Ending → World → Prop} (hw : Region.wanted o (yielded ops a.tmps) = true) (ho : o.op = .call ⟨.value g, xs, ts⟩) (hg : a.eval g = .func (.yield l) #[] #[]) (hargs : xs.map a.eval = args)
    (hy : YieldAt Fence.wide 0 P l args w Post) (hk : ∀ e w', Post e w' → ∃ v, e = .returned v ∧ wpListIn F 0 P ops Q rest (a.put o.dst v) w') : wpListIn F 0 P ops Q (o :: rest) a w := by
  obtain ⟨fn, tmps, assign, body, hrun, hR⟩ := hy
  have hfn : ∀ f, F.fn f := by rcases hF with rfl | ⟨l, rfl⟩ <;> intro f <;> trivial
  have hdp : F.depth.isSome = true → 1 ≤ 0 := by rcases hF with rfl | ⟨l, rfl⟩ <;> intro h <;> cases h
  have hRF : RoundIn F 0 P l fn tmps assign body w Post := by rcases hF with rfl | ⟨l, rfl⟩ <;> exact hR
  unfold wpListIn
  rw [if_pos hw]
  refine ⟨fun f _ => hfn f, ?_⟩
  rw [Oper.semAt_eq _ _ o (fun c hc => by rw [ho] at hc; cases hc)]
  have hr : (execOp a.eval o).run P w = .ok (.round l fn tmps assign body) w := by
    obtain ⟨dst, op, ty, pos, aft, gd⟩ := o
    have ho : op = .call ⟨.value g, xs, ts⟩ := ho
    subst ho
    simp only [execOp, resolve, hg, Deferred.ofValue, Sem.run_bind, Sem.run_pure, Result.andThen_ok, invoke, hargs]
    simpa using hrun
  rw [hr]
  refine ⟨hdp, hRF.mono fun e w' he => ?_⟩
  obtain ⟨v, rfl, h⟩ := hk e w' he
  exact h
end
/-- What abides any change to blocks from B on abides many of them. -/
theorem any_all {β : Type} {B : Nat} {I : β → World → Prop} (hI : AnyFrom B I) {s : β} {W W' : World} (h : I s W) (hos : W'.os = W.os) (ht : W'.tape = W.tape) (ho : W'.output = W.output) (hsz : W.heap.size ≤ W'.heap.size) (hb : ∀ k, k < B → k < W.heap.size → W'.heap[k]? = W.heap[k]?) : I s W' := by
  -- as long as W' and hereafter like W' but for these places
  have key : ∀ (d lo : Nat) (W1 : World), I s W1 → W1.os = W'.os → W1.tape = W'.tape → W1.output = W'.output → W1.heap.size = W'.heap.size → B ≤ lo → (∀ k, k < lo ∨ lo + d ≤ k → W1.heap[k]? = W'.heap[k]?) → I s W' := by
    intro d
    induction d with
    | zero =>
      intro lo W1 h1 e1 e2 e3 e4 _ e6
      exact hI s W1 W' none h1 ⟨e1.symm, e2.symm, e3.symm, by rw [e4]; exact Nat.le_refl _, fun k _ _ => (e6 k (by omega)).symm⟩ (fun r e => by cases e)
    | succ d ih =>
      intro lo W1 h1 e1 e2 e3 e4 e5 e6
      rcases Nat.lt_or_ge lo W'.heap.size with hlt | hge
      · have hg : W1.grownBy (W1.putObj lo W'.heap[lo]) (some lo) := grownBy_putObj' W1 lo _
        refine ih (lo + 1) (W1.putObj lo W'.heap[lo]) (hI s W1 _ (some lo) h1 hg (fun r e => by cases e; exact e5)) e1 e2 e3 (by simpa [World.putObj] using e4) (by omega) (fun k hk => ?_)
        by_cases hkl : k = lo
        · subst hkl
          rw [World.putObj_heap_same (by rw [e4]; exact hlt), Array.getElem?_eq_getElem hlt]
        · rw [World.putObj_heap_other hkl]
          exact e6 k (by omega)
      · refine ih (lo + 1) W1 h1 e1 e2 e3 e4 (by omega) (fun k hk => ?_)
        by_cases hkl : k = lo
        · rw [Array.getElem?_eq_none (by omega), Array.getElem?_eq_none (by omega)]
        · exact e6 k (by omega)
  -- first only what is new
  have h0 : I s { W' with heap := W.heap ++ W'.heap.extract W.heap.size W'.heap.size } := hI s W _ none h ⟨hos, ht, ho, by simp, fun k hk _ => by simp [Array.getElem?_append_left hk]⟩ (fun r e => by cases e)
  refine key W.heap.size B _ h0 rfl rfl rfl (by simp; omega) (Nat.le_refl _) (fun k hk => ?_)
  rcases Nat.lt_or_ge k W.heap.size with hlt | hge
  · rcases hk with hk | hk
    · show (W.heap ++ W'.heap.extract W.heap.size W'.heap.size)[k]? = W'.heap[k]?
      rw [Array.getElem?_append_left hlt]; exact (hb k hk hlt).symm
    · omega
  · show (W.heap ++ W'.heap.extract W.heap.size W'.heap.size)[k]? = W'.heap[k]?
    rw [Array.getElem?_append_right hge, Array.getElem?_extract]
    rw [show W.heap.size + (k - W.heap.size) = k by omega]
    split
    · rfl
    · rw [Array.getElem?_eq_none (by omega)]
section
variable {D : List Deferred} {E : Env} (hE : EnvOK E)
include hE
/-- The head of a region that draws its order. -/
theorem ev_dhead {F : Fence} (hF : NF F) (nf : Nat) {id : Nat} {l : List Oper} {st : ASt} {K : ASt → Prop} {p : Plan} (hp : p.ok l = true) (hd : noDefer l = true) (h : headP E (callWith E (evT E nf)) st.m.H.length (statOf E st l p.n p.ord) l p.ord st K) {a : Act} {Hr : List RBlk} {w : World} {Q : Exit → Act → World → Prop} (hq : ¬ LetsOut Q) (hR : RelSt E.rows D st a Hr) (hO : OwnK E.rows st.m.H Hr w)
    (hk : ∀ st' a' Hr' w', K st' → RelSt E.rows D st' a' Hr' → OwnK E.rows st'.m.H Hr' w' → Stp st.m.wr Hr w Hr' w' → wpListIn F 0 E.P l.toArray Q (l.drop p.n) a' w') : (Code.region id l.toArray true).wpIn F 0 E.P Q a w := by
  obtain ⟨st1, h1, hlo1, h2⟩ := head_sound hE (call_ok hE (ev_sound hE nf)) st.m.H.length (statOf E st l p.n p.ord) l p.ord st _ h
  have hok := hp
  unfold Plan.ok at hok
  have hBl : RelB E.rows (nums Hr) st.m.H Hr := by obtain ⟨_, _, _, hB, _⟩ := hR; exact hB
  have hlen := hBl.len
  have hst := stat_of (E := E) (l := l) (n := p.n) (ord := p.ord) hBl
  have hdr := (Below.refl w.heap.size w).drew
  refine Fw.regInY hF hd hq p.n p.C p.G p.T0 p.ord p.tl (StP E.rows (statOf E st l p.n p.ord) Hr) (Cl E.rows st.m.wr Hr w st.m.H Hr) (cl_st hst) cl_stable hE.mixed hok ⟨⟨hO.1.grow hdr, hO.2.below' hdr⟩, .of_below hdr⟩ ?_
  refine h2 a Hr hR Hr w _ _ cl_stable (fun _ h => h) hlen hst fun a' Hr' S' hR' hS' w' hss hw' => ?_
  have hcl := hS' w' hw'
  exact hk st1 a' Hr' w' h1 hR' hcl.1 hcl.2
end
end

section
def wrZ (fz : List Nat) : Nat → Bool := fun l => !memN l fz
/-- What is known: the labels' blocks were made by the call (n0 on), below B or since V0 or else frozen; what S holds and what lies from B on is as it was at V0. -/
structure It (R : Rws) (base : Nums) (n0 : Nat) (S0 S : Nat → Prop) (B : Nat) (fz : List Nat) (V0 : World) (J : World → Prop) (H : Mem) (Hr : List RBlk) (V : World) : Prop where
  own : OwnK R H Hr V
  lab : ∀ (l : Nat) (q : Num), (nums Hr)[l]? = some q → q.ph = false → (n0 ≤ q.b ∧ (q.b < B ∨ V0.heap.size ≤ q.b ∨ memN l fz = true)) ∨ (S0 q.b ∧ memN l fz = true)
  n0v : n0 ≤ V0.heap.size
  sv : ∀ k, S k → k < V0.heap.size
  frz : ∀ k, S k → ∀ (l : Nat) (q : Num), (nums Hr)[l]? = some q → q.ph = false → q.b = k → memN l fz = true
  keep : Keep (fun b => S b ∨ B ≤ b) V0 V
  ext : ∃ σ, nums Hr = base ++ σ
  j : J V
abbrev AnyN (n0 : Nat) (J : World → Prop) : Prop := AnyFrom n0 (fun (_ : Unit) V => J V)
section
variable {R : Rws} {base : Nums} {n0 B : Nat} {S0 S : Nat → Prop} {fz : List Nat} {V0 V V' : World} {J : World → Prop} {H H' : Mem} {Hr Hr' : List RBlk}
theorem wrZ_f {l : Nat} (h : memN l fz = true) : wrZ fz l = false := by unfold wrZ; rw [h]; rfl
theorem It.stp (hJ : AnyN n0 J) (h : It R base n0 S0 S B fz V0 J H Hr V) (hO : OwnK R H' Hr' V') (hst : Stp (wrZ fz) Hr V Hr' V') : It R base n0 S0 S B fz V0 J H' Hr' V' := by
  obtain ⟨σ, hσ, hσ2⟩ := hst.ext
  have hsz := h.keep.size
  have new : ∀ (l : Nat) (q : Num), (nums Hr')[l]? = some q → q.ph = false → (nums Hr)[l]? = some q ∨ V.heap.size ≤ q.b ∨ ∃ (l' : Nat) (p : Num), (nums Hr)[l']? = some p ∧ p.ph = false ∧ p.b = q.b ∧ wrZ fz l' = true := fun l q hq hp => by
    rw [hσ] at hq
    rcases Nat.lt_or_ge l (nums Hr).length with hlt | hge
    · rw [List.getElem?_append_left hlt] at hq; exact .inl hq
    · rw [List.getElem?_append_right hge] at hq
      rcases hσ2 q (List.mem_of_getElem? hq) hp with g | g
      · exact .inr (.inl g)
      · exact .inr (.inr g)
  have hnv := h.n0v
  refine ⟨hO, fun l q hq hp => ?_, h.n0v, h.sv, fun k hk l q hq hp hb => ?_, ⟨hst.os.trans h.keep.os, hst.tape.trans h.keep.tape, hst.output.trans h.keep.output, Nat.le_trans hsz hst.size, fun k hk hl => ?_⟩, ?_, ?_⟩
  · rcases new l q hq hp with g | g | ⟨l', p, g1, g2, g3, g4⟩
    · exact h.lab l q g hp
    · exact .inl ⟨by omega, .inr (.inl (by omega))⟩
    · rcases h.lab l' p g1 g2 with ⟨a, b⟩ | ⟨_, b⟩
      · rw [g3] at a b
        refine .inl ⟨a, ?_⟩
        rcases b with b | b | b
        · exact .inl b
        · exact .inr (.inl b)
        · rw [wrZ_f b] at g4; cases g4
      · rw [wrZ_f b] at g4; cases g4
  · have hkv := h.sv k hk
    rcases new l q hq hp with g | g | ⟨l', p, g1, g2, g3, g4⟩
    · exact h.frz k hk l q g hp hb
    · omega
    · have := h.frz k hk l' p g1 g2 (g3.trans hb)
      rw [wrZ_f this] at g4; cases g4
  · refine (hst.block k (by omega) (fun l q hq hp hb => ?_)).trans (h.keep.block k hk hl)
    rcases hk with hk | hk
    · exact wrZ_f (h.frz k hk l q hq hp hb)
    · rcases h.lab l q hq hp with ⟨_, b⟩ | ⟨_, b⟩
      · rcases b with b | b | b
        · omega
        · omega
        · exact wrZ_f b
      · exact wrZ_f b
  · obtain ⟨τ, hτ⟩ := h.ext
    exact ⟨τ ++ σ, by rw [hσ, hτ, List.append_assoc]⟩
  · exact any_all hJ (s := ()) h.j hst.os hst.tape hst.output hst.size (fun k hk hl => hst.block k hl (fun l q hq hp hb => by
      rcases h.lab l q hq hp with ⟨a, _⟩ | ⟨_, b⟩
      · omega
      · exact wrZ_f b))
end
section
variable {D : List Deferred} {E : Env} (hE : EnvOK E) {F : Fence} (hF : NF F) {base : Nums} {n0 B : Nat} {S0 S : Nat → Prop} {fz : List Nat} {V0 w : World} {J : World → Prop} {H H' : Mem} {Hr : List RBlk} {a : Act} {Q : Exit → Act → World → Prop} {live live' : List (Nat × AV)} {n : Nat} {ds ds' : List Bool} {wr' : Nat → Bool}
include hE hF
theorem codeF (nf : Nat) {c : Code} {st : ASt} {K : AExit → ASt → Prop} (hin : inB c = true) (h : evT E nf (.code c) st K) : ∃ e st', K e st' ∧ st'.m.wr = st.m.wr ∧ ∀ {D : List Deferred} a Hr w, RelSt E.rows D st a Hr → OwnK E.rows st.m.H Hr w → c.wpIn F 0 E.P (Rch E.rows D e st' st.m.wr Hr w) a w := by
  rcases hF with rfl | ⟨l, rfl⟩
  · obtain ⟨e, st', h1, h2, h3⟩ := ev_sound hE nf (.code c) st K h
    exact ⟨e, st', h1, h2, fun a Hr w hR hO => wpIn_wide.2 (h3 a Hr w hR hO)⟩
  · exact ev_in hE l nf c st K hin h
/-- Code, however it ends. -/
theorem it_code (hJ : AnyN n0 J) (nf : Nat) (e0 : AExit) {c : Code} (hin : inB c = true) (h : ∀ r, Is (evT E nf (.code c) ⟨pat live r 0 n, ⟨H, ds, wrZ fz⟩⟩ (chE e0 live' n H' []))) (hP : PatSt E.rows D live n ⟨H, ds', wr'⟩ a Hr) (hB : It E.rows base n0 S0 S B fz V0 J H Hr w)
    (hk : ∀ a' Hr' w', PatSt E.rows D live' n ⟨H', [], wrZ fz⟩ a' Hr' → It E.rows base n0 S0 S B fz V0 J H' Hr' w' → Q e0.real a' w') : c.wpIn F 0 E.P Q a w := by
  obtain ⟨r, hR⟩ := hP
  obtain ⟨e, st', h1, hlo, hs⟩ := codeF hE hF nf hin (h r).is
  refine wpIn_mono (hs a Hr w hR hB.own) ?_
  rintro e' a' w' ⟨rfl, Hr', hR', hO', hS⟩
  unfold chE at h1
  simp only [Prod.mk.injEq] at h1
  obtain ⟨he, hn, hl, rfl, hds⟩ := h1
  rw [eqE_eq he]
  have hP' := patSt_of (live := live) hR' hn (lives_of hl)
  exact hk a' Hr' w' hP' (hB.stp hJ hO' hS)
theorem list_soundIn {call : CallF} (hC : CallOK E call) (ops l2 : List Oper) : ∀ (l : List Oper) (st : ASt) (K : ASt → Prop), noDefer l = true → listP E call ops l st K → ∃ st', K st' ∧ st'.m.wr = st.m.wr ∧ ∀ {D : List Deferred} a Hr w, RelSt E.rows D st a Hr → OwnK E.rows st.m.H Hr w → ∀ Q : Exit → Act → World → Prop,
    (∀ a' Hr' w', RelSt E.rows D st' a' Hr' → OwnK E.rows st'.m.H Hr' w' → Stp st.m.wr Hr w Hr' w' → wpListIn F 0 E.P ops.toArray Q l2 a' w') → wpListIn F 0 E.P ops.toArray Q (l ++ l2) a w
  | [], st, K, _, h => ⟨st, h, rfl, fun a Hr w hR hO Q hq => hq a Hr w hR hO (.refl _ _ _)⟩
  | o :: r, st, K, hnd, h => by
    have hfn : ∀ f, F.fn f := by rcases hF with rfl | ⟨l, rfl⟩ <;> intro f <;> trivial
    obtain ⟨st1, st2, hk, h1, h2, h3, h4⟩ := step_sound hE hC h
    have hnd' : noDefer r = true := by
      unfold noDefer at hnd ⊢
      rw [List.all_cons, Bool.and_eq_true] at hnd; exact hnd.2
    have hdo : ∀ c, o.op ≠ .defer c := fun c hc => by
      unfold noDefer at hnd
      rw [List.all_cons, Bool.and_eq_true, hc] at hnd; cases hnd.1
    obtain ⟨st', hK, hlo, hl⟩ := list_soundIn hC ops l2 r st2 K hnd' hk
    rcases h4 with ⟨hw, hd⟩ | ⟨_, hw, rfl⟩
    · refine ⟨st', hK, hlo.trans (hd.lo.trans h2), fun a Hr w hR hO Q hq => ?_⟩
      rw [List.cons_append]
      unfold wpListIn
      rw [if_pos (hw a Hr hR)]
      refine operF hF o hdo (did_seq hd (h1 a Hr hR) (by rw [h3]; exact hO) fun a' Hr' w' hR' hO' hS => hl a' Hr' w' hR' hO' Q fun a2 Hr2 w2 hR2 hO2 hS2 => hq a2 Hr2 w2 hR2 hO2 ?_)
      rw [hd.lo, h2] at hS2
      rw [h2] at hS
      exact hS.trans hS2
    · refine ⟨st', hK, hlo.trans h2, fun a Hr w hR hO Q hq => ?_⟩
      rw [List.cons_append]
      unfold wpListIn
      rw [if_neg (by rw [hw a Hr hR]; simp)]
      obtain ⟨vs, rfl, ht, hB, hn⟩ := h1 a Hr hR
      rename_i D'
      obtain ⟨vs', e, hv⟩ := putA_rel (D := D') (v := undefA) (V := undef) ht o.dst .raw
      refine ⟨fun f _ => hfn f, hl _ Hr w ⟨vs', e, hv, hB, hn⟩ (by show OwnK E.rows st1.m.H Hr w; rw [h3]; exact hO) Q fun a2 Hr2 w2 hR2 hO2 hS2 => hq a2 Hr2 w2 hR2 hO2 ?_⟩
      have : (st1.put o.dst undefA).m.wr = st.m.wr := h2
      rw [this] at hS2
      exact hS2
/-- The first operations of a list. -/
theorem it_ops (hJ : AnyN n0 J) (nf k : Nat) {ops l : List Oper} (hnd : noDefer (l.take k) = true) (h : ∀ r, Is (listP E (callWith E (evT E nf)) ops (l.take k) ⟨pat live r 0 n, ⟨H, ds, wrZ fz⟩⟩ (chK live' n H' [] .normal)))
    (hP : PatSt E.rows D live n ⟨H, ds', wr'⟩ a Hr) (hB : It E.rows base n0 S0 S B fz V0 J H Hr w)
    (hk : ∀ a' Hr' w', PatSt E.rows D live' n ⟨H', [], wrZ fz⟩ a' Hr' → It E.rows base n0 S0 S B fz V0 J H' Hr' w' → wpListIn F 0 E.P ops.toArray Q (l.drop k) a' w') : wpListIn F 0 E.P ops.toArray Q l a w := by
  obtain ⟨r, hR⟩ := hP
  obtain ⟨st', h1, hlo, h2⟩ := list_soundIn hE hF (call_ok hE (ev_sound hE nf)) ops (l.drop k) (l.take k) _ _ hnd (h r).is
  rw [← List.take_append_drop k l]
  refine h2 a Hr w hR hB.own Q fun a' Hr' w' hR' hO' hS => ?_
  unfold chK at h1
  simp only [Prod.mk.injEq] at h1
  obtain ⟨_, hn, hl, rfl, hds⟩ := h1
  have hP' := patSt_of (live := live') hR' hn (lives_of hl)
  have := hk a' Hr' w' hP' (hB.stp hJ hO' hS)
  simpa using this
/-- The head of a region that draws its order. -/
theorem it_dhead (hJ : AnyN n0 J) (nf : Nat) {id : Nat} {l : List Oper} {p : Plan} (hp : p.ok l = true) (hd : noDefer l = true) (hq : ¬ LetsOut Q) (h : ∀ r, Is (headP E (callWith E (evT E nf)) H.length (statOf E ⟨pat live r 0 n, ⟨H, ds, wrZ fz⟩⟩ l p.n p.ord) l p.ord ⟨pat live r 0 n, ⟨H, ds, wrZ fz⟩⟩ (chK live' n H' [] .normal)))
    (hP : PatSt E.rows D live n ⟨H, ds', wr'⟩ a Hr) (hB : It E.rows base n0 S0 S B fz V0 J H Hr w)
    (hk : ∀ a' Hr' w', PatSt E.rows D live' n ⟨H', [], wrZ fz⟩ a' Hr' → It E.rows base n0 S0 S B fz V0 J H' Hr' w' → wpListIn F 0 E.P l.toArray Q (l.drop p.n) a' w') : (Code.region id l.toArray true).wpIn F 0 E.P Q a w := by
  obtain ⟨r, hR⟩ := hP
  have hR : RelSt E.rows D ⟨pat live r 0 n, ⟨H, ds, wrZ fz⟩⟩ a Hr := hR
  refine ev_dhead hE hF nf hp hd (h r).is hq hR hB.own fun st' a' Hr' w' h1 hR' hO' hS => ?_
  unfold chK at h1
  simp only [Prod.mk.injEq] at h1
  obtain ⟨_, hn, hl, rfl, hds⟩ := h1
  exact hk a' Hr' w' (patSt_of (live := live') hR' hn (lives_of hl)) (hB.stp hJ hO' hS)
end
/-- What is called, if it is what yields. -/
def evalY (tl : List AV) : List Oper → Option (Nat × List AV × Tmp)
  | ⟨some d, .call ⟨.value g, xs, _⟩, _, _, _, none⟩ :: _ => match evO tl g, evs (evO tl) xs.toList with
    | some (.func (.yield l) []), some vs => some (l, vs, d)
    | _, _ => none
  | _ => none
/-- How a round of what is outside may end. -/
def YPost (S0 : Nat → Prop) (n0 : Nat) (Jt Jf : World → Prop) (V : World) : Ending → World → Prop := fun e W' => (e = .returned (.bool true) ∧ Jt W' ∧ Keep (fun b => S0 b ∨ n0 ≤ b) V W') ∨ (e = .returned (.bool false) ∧ Jf W' ∧ Keep (fun b => n0 ≤ b) V W')
theorem rel_forget {R : Rws} {ρ : Nums} {tl : List AV} {vs : List Value} (h : RelL R ρ tl vs) {d : Nat} {V : Value} {v : AV} (hd : vs[d]? = some V) (hv : v.val? = some V) : ∃ r, RelL noRows [] (pat [(d, v)] r 0 tl.length) vs := by
  have hlen := h.len
  have key : ∀ (vs : List Value), vs[d]? = some V → RelL noRows [] ((vs.map AV.raw).set d v) vs := by
    intro vs hd
    have hraw : ∀ vs : List Value, RelL noRows [] (vs.map AV.raw) vs := by
      intro vs
      induction vs with
      | nil => exact .nil
      | cons x vs ih => exact .cons .raw ih
    exact (hraw vs).setSame hd (Rel.of_val hv)
  have hd2 : d < vs.length := (List.getElem?_eq_some_iff.1 hd).1
  have h2 := pat_of (key vs hd) (live := [(d, v)]) (fun i u hu => by
    unfold look at hu
    cases hb : Nat.beq i d <;> simp only [hb, cond_true, cond_false] at hu
    · cases hu
    · rw [Nat.eq_of_beq_eq_true hb]; cases hu
      rw [List.getElem?_set_self (by simpa using hd2)])
  simpa [hlen] using h2
section
variable {D : List Deferred} {R : Rws} {P : Program} {F : Fence} (hF : NF F) {base : Nums} {n0 B : Nat} {S S0 : Nat → Prop} {fz : List Nat} {V0 V : World} {J Jt Jf : World → Prop} {H : Mem} {Hr : List RBlk} {a : Act} {Q : Exit → Act → World → Prop} {live : List (Nat × AV)} {n : Nat} {ds : List Bool} {wr' : Nat → Bool}
include hF
/-- A call of yield. -/
theorem it_yield {ops : Array Oper} {l : List Oper} {ly d : Nat} {avs : List AV} {args : Array Value} (hcall : ∀ r, evalY (pat live r 0 n) l = some (ly, avs, d)) (hd : d < n) (hkeys : live.all (fun p => Nat.blt p.1 n) = true) (hx : AV.plains? avs = some args.toList)
    (hSS : ∀ k, S k → S0 k ∨ n0 ≤ k) (hn0 : n0 ≤ B) (hRS : ∀ j r, R j = some r → 0 < r.n → ∀ b off, r.A = some ⟨b, off, none⟩ → S0 b)
    (hP : PatSt R D live n ⟨H, ds, wr'⟩ a Hr) (hB : It R base n0 S0 S B fz V0 J H Hr V)
    (hY : YieldAt Fence.wide 0 P ly args V (YPost S0 n0 Jt Jf V))
    (k1 : ∀ a' w', PatSt R D ((d, .bool true true) :: live) n ⟨H, [], wrZ fz⟩ a' Hr → It R base n0 S0 S B fz V0 Jt H Hr w' → wpListIn F 0 P ops Q l.tail a' w')
    (k2 : ∀ a' w', PatSt noRows D [(d, .bool true false)] n ⟨[], [], wrZ fz⟩ a' [] → It noRows [] n0 S0 (fun _ => False) B fz V0 Jf [] [] w' → wpListIn F 0 P ops Q l.tail a' w') : wpListIn F 0 P ops Q l a V := by
  obtain ⟨r, vs, rfl, ht, hBl, hnd⟩ := hP
  have h := hcall r
  unfold evalY at h
  split at h
  · rename_i dd g xs ts ty pos aft os
    split at h
    · rename_i l' us hg hvs
      simp only [Option.some.injEq, Prod.mk.injEq] at h
      obtain ⟨rfl, rfl, rfl⟩ := h
      have e1 := evO_sound (D := D) ht _ _ hg
      generalize hge : (⟨vs.toArray, D⟩ : Act).eval g = gv at e1
      cases e1 with | func hcaps =>
      cases hcaps
      have e2 := evs_sound (evO_sound (D := D) ht) hvs
      have hargs : xs.map (⟨vs.toArray, D⟩ : Act).eval = args := by
        apply Array.toList_inj.1
        rw [Array.toList_map]
        exact e2.plains hx
      have hl := ht.len
      rw [pat_len] at hl
      refine list_yield hF (l := l') (args := args) (by simp [Region.wanted]) rfl hge hargs hY fun e w' he => ?_
      rcases he with ⟨rfl, hjt, hkp⟩ | ⟨rfl, hjf, hkp⟩
      · refine ⟨_, rfl, k1 _ w' ?_ ?_⟩
        · refine patSt_of (live := live) (st := ⟨(pat live r 0 n).set dd (.bool true true), ⟨H, [], wrZ fz⟩⟩) ⟨vs.set dd (.bool true), by simp [Act.put], ht.set .bool, hBl, hnd⟩ (by simp [pat_len]) (fun i v hv => ?_)
          unfold look at hv
          cases hb' : Nat.beq i dd <;> simp only [hb', cond_true, cond_false] at hv
          · have hne : i ≠ dd := Nat.ne_of_beq_eq_false hb'
            rw [List.getElem?_set_ne (Ne.symm hne)]
            exact pat_get hv (look_lt hkeys hv)
          · rw [Nat.eq_of_beq_eq_true hb']; cases hv
            rw [List.getElem?_set_self (by rw [pat_len]; exact hd)]
        · refine ⟨⟨fun l it q g1 g2 hq => ?_, fun j rr hj b off hA h0 => ?_⟩, hB.lab, hB.n0v, hB.sv, hB.frz, hB.keep.trans (hkp.mono fun k hk => ?_), hB.ext, hjt⟩
          · obtain ⟨x1, x2⟩ := hB.own.1 l it q g1 g2 hq
            have hb : S0 q.b ∨ n0 ≤ q.b := (hB.lab l q.num (nums_get g2) hq).elim (fun h => .inr h.1) (fun h => .inl h.1)
            exact ⟨Nat.lt_of_lt_of_le x1 hkp.size, fun hv => (hkp.block q.b hb x1).trans (x2 hv)⟩
          · obtain ⟨y1, y2, y3⟩ := hB.own.2 j rr hj b off hA h0
            have hb := hkp.block b (.inl (hRS j rr hj h0 b off hA)) y2
            exact ⟨y1, Nat.lt_of_lt_of_le y2 hkp.size, fun i hi q u hu => (World.cell?_of_block (a := ⟨b, off + i * rr.s + q, none⟩) hb).trans (y3 i hi q u hu)⟩
          · rcases hk with hk | hk
            · exact hSS k hk
            · exact .inr (Nat.le_trans hn0 hk)
      · refine ⟨_, rfl, k2 _ w' ?_ ⟨⟨OwnM.nil _, rd_no _ _⟩, by simp [nums], hB.n0v, fun k hk => hk.elim, fun k hk => hk.elim, (hB.keep.mono fun k hk => .inr (hk.resolve_left id)).trans (hkp.mono fun k hk => Nat.le_trans hn0 (hk.resolve_left id)), ⟨[], rfl⟩, hjf⟩⟩
        have hset : (vs.set dd (.bool false))[dd]? = some (.bool false) := by rw [List.getElem?_set_self (by rw [hl]; exact hd)]
        obtain ⟨r2, hr2⟩ := rel_forget (ht.set (v := .bool false) (c := .bool true false) (i := dd) .bool) hset (v := .bool true false) rfl
        rw [List.length_set, pat_len] at hr2
        exact ⟨r2, vs.set dd (.bool false), by simp [Act.put], hr2, .nil, Apart.nil⟩
    · cases h
  · cases h
end
/-- A loop of N rounds. -/
theorem it_loop {P : Program} {F : Fence} {c : Code} {a : Act} {w : World} {Q : Exit → Act → World → Prop} (N : Nat) (inv : Nat → Act → World → Prop) (h0 : inv 0 a w) (hstep : ∀ k a w, k < N → inv k a w → c.wpIn F 0 P (Exit.then (inv (k + 1)) Q) a w) (hlast : ∀ a w, inv N a w → c.wpIn F 0 P (Exit.then (fun _ _ => False) Q) a w) : (Code.loop c).wpIn F 0 P Q a w := by
  refine wpIn_loop_rounds (N + 1) ?_
  have key : ∀ j k, k + j = N → ∀ a w, inv k a w → Code.roundsIn F 0 P c Q (j + 1) a w := by
    intro j
    induction j with
    | zero =>
      intro k hk a w h
      obtain rfl : k = N := by omega
      exact hlast a w h
    | succ j ih =>
      intro k hk a w h
      refine wpIn_mono (hstep k a w (by omega) h) fun e a' w' hq => ?_
      cases e <;> first | exact ih (k + 1) (by omega) a' w' hq | exact hq
  exact key N 0 (by omega) a w h0
/-- The blocks that an inner range leans on. -/
def Sin (S0 : Nat → Prop) (n0 : Nat) (fz : List Nat) (Hr : List RBlk) (w : World) : Nat → Prop := fun k => k < w.heap.size ∧ (S0 k ∨ (n0 ≤ k ∧ ∀ (l : Nat) (q : Num), (nums Hr)[l]? = some q → q.ph = false → q.b = k → memN l fz = true))
def ItR (R : Rws) (S0 : Nat → Prop) (Hr : List RBlk) (w : World) (H : Mem) (J : World → Prop) (V : World) : Prop := ∃ Hr1, nums Hr1 = nums Hr ∧ RelB R (nums Hr) H Hr1 ∧ Apart H Hr1 ∧ OwnM H Hr1 V ∧ J V ∧ Keep S0 w V
theorem rd_keep {R : Rws} {nb : List Nat} {S0 : Nat → Prop} {w V : World} (hr : Rd R nb w) (hk : Keep S0 w V) (hRS : ∀ j r, R j = some r → 0 < r.n → ∀ b off, r.A = some ⟨b, off, none⟩ → S0 b) : Rd R nb V := fun j rr hj b off hA h0 => by
  obtain ⟨y1, y2, y3⟩ := hr j rr hj b off hA h0
  have hb := hk.block b (hRS j rr hj h0 b off hA) y2
  exact ⟨y1, Nat.lt_of_lt_of_le y2 hk.size, fun i hi q u hu => (World.cell?_of_block (a := ⟨b, off + i * rr.s + q, none⟩) hb).trans (y3 i hi q u hu)⟩
theorem itR_any {R : Rws} {S0 : Nat → Prop} {n0 : Nat} {H0 : Mem} {Hr : List RBlk} {w : World} (hO : OwnM H0 Hr w) (hl0 : Hr.length = H0.length) (hn0 : n0 ≤ w.heap.size) {Hk : Nat → Mem} {J : Nat → World → Prop} (hJ : AnyFrom n0 J) (hS0 : ∀ k, S0 k → k < w.heap.size) : AnyFrom w.heap.size (fun k V => ItR R S0 Hr w (Hk k) (J k) V) := by
  rintro k V V' row ⟨Hr1, h1, h2, h3, h4, h5, h6⟩ hg hr
  refine ⟨Hr1, h1, h2, h3, fun l it q g1 g2 hq => ?_, hJ k V V' row h5 hg (fun r e => Nat.le_trans hn0 (hr r e)), any_keep (β := Unit) (fun k hk => .inl (hS0 k hk)) () V V' row h6 hg hr⟩
  obtain ⟨x1, x2⟩ := h4 l it q g1 g2 hq
  have hn : (nums Hr)[l]? = some q.num := by rw [← h1]; exact nums_get g2
  have hlt : q.b < w.heap.size := nums_lt hO hl0 hn hq
  refine ⟨Nat.lt_of_lt_of_le x1 hg.size, fun hv => ?_⟩
  rw [hg.block q.b x1 fun e => by have := hr _ e.symm; omega]
  exact x2 hv
/-- The end of a round. -/
theorem it_end {R : Rws} {D : List Deferred} {live : List (Nat × AV)} {n n0 : Nat} {H2 Hn : Mem} {ds : List Bool} {wr : Nat → Bool} {a : Act} {Hr Hr2 : List RBlk} {S0 : Nat → Prop} {fz fz2 : List Nat} {w V V3 : World} {J' : World → Prop} (hP : PatSt R D live n ⟨H2, ds, wr⟩ a Hr2) (hB : It R (nums Hr) n0 S0 (Sin S0 n0 fz Hr w) w.heap.size fz2 V J' H2 Hr2 V3) (hkw : Keep S0 w V) (hS0 : ∀ k, S0 k → k < w.heap.size)
    (htake : H2.take Hr.length = Hn) (hbd : bddH Hr.length (H2.take Hr.length) = true) : Keep (fun b => Sin S0 n0 fz Hr w b ∨ w.heap.size ≤ b) V V3 ∧ ItR R S0 Hr w Hn J' V3 := by
  obtain ⟨r, vs, rfl, ht, hBl, hnd⟩ := hP
  obtain ⟨σ, hσ⟩ := hB.ext
  have hHr0 : (nums Hr).length = Hr.length := by simp [nums]
  have hnt : nums (Hr2.take Hr.length) = nums Hr := by
    have : nums (Hr2.take Hr.length) = (nums Hr2).take Hr.length := by simp [nums, List.map_take]
    rw [this, hσ, ← hHr0, List.take_left]
  subst htake
  refine ⟨hB.keep, Hr2.take Hr.length, hnt, ?_, ?_, ?_, hB.j, hkw.trans (hB.keep.mono fun k hk => .inl ⟨hS0 k hk, .inl hk⟩)⟩
  · rw [hσ] at hBl
    have hsh := hBl.take Hr.length
    rw [← hHr0] at hsh hbd ⊢
    exact RelB.shrink hbd hsh
  · intro k l jt kt x y hne h1 h2 v1 v2 q1 q2 z1 z2 hb
    rw [List.getElem?_take] at h1 h2 q1 q2
    split at h1
    · split at h2
      · rename_i c1 c2
        rw [if_pos c1] at q1; rw [if_pos c2] at q2
        exact hnd k l jt kt x y hne h1 h2 v1 v2 q1 q2 z1 z2 hb
      · cases h2
    · cases h1
  · intro l jt x h1 q1 hxp
    rw [List.getElem?_take] at h1 q1
    split at h1
    · rename_i c1
      rw [if_pos c1] at q1
      exact hB.own.1 l jt x h1 q1 hxp
    · cases h1
section
variable {D : List Deferred} {E : Env} (hE : EnvOK E)
include hE
/-- A range over a function, in a function that is ranged over itself: each round may yield. -/
theorem it_each (nf : Nat) {α : Type} {xs : List α} {encs : Nat → α → Array Value} {g : Operand} {ps : Array Tmp} {assign body : Code} {gf : Nat} {caps : List AV} {live : List (Nat × AV)} {n : Nat} {H : Mem} {wr' : Nat → Bool} {a : Act} {Hr : List RBlk} {w W0 : World} {base : Nums} {n0 : Nat} {S0 : Nat → Prop} {Q : Exit → Act → World → Prop}
    (hgf : ∀ r, evO (pat live r 0 n) g = some (.func (.func gf) caps)) (eg : Enters E.P gf) (hin : inB assign = true) (fz0 fz fz2 : List Nat)
    (hseq : ∀ lb, RelL E.rows (nums Hr) caps lb → Seq E.P gf lb.toArray encs xs (Sin S0 n0 fz Hr w) w)
    (xA : Nat → α → List AV) (hx : ∀ k x, xs[k]? = some x → AV.plains? (xA k x) = some (encs k x).toList) (hps : ∀ k x, (encs k x).size = ps.size)
    (Hk : Nat → Mem) (h0 : Hk 0 = H) (hlen : ∀ k, (Hk k).length = H.length)
    (J : Nat → World → Prop) (hJ : AnyFrom n0 J) (Jx : World → Prop) (hJx : AnyN n0 Jx) (cx : Code)
    (live1 : Nat → α → List (Nat × AV)) (H1 : Nat → α → Mem) (hf1 : ∀ l, memN l fz = true → memN l fz2 = true) (hf2 : ∀ k x l, H.length ≤ l → l < (H1 k x).length → memN l fz2 = true)
    (hassign : ∀ k x r, xs[k]? = some x → Is (evT E nf (.code assign) ⟨setps (pat live r 0 n) ps.toList (xA k x), ⟨Hk k, [], wrZ fz⟩⟩ (chE .normal (live1 k x) n (H1 k x) []))) (hnm : ∀ k x, noMap ((H1 k x).drop H.length) = true)
    (hbody : ∀ l' k x V a1 Hr1, xs[k]? = some x → PatSt E.rows [] (live1 k x) n ⟨H1 k x, [], wrZ fz2⟩ a1 Hr1 → It E.rows (nums Hr) n0 S0 (Sin S0 n0 fz Hr w) w.heap.size fz2 V (J k) (H1 k x) Hr1 V → Keep S0 w V →
      body.wpIn (Fence.wide.inRound l') 0 E.P (eachPost w.heap.size (Sin S0 n0 fz Hr w) (fun k V => ItR E.rows S0 Hr w (Hk k) (J k) V) (fun c _ V => c = cx ∧ Jx V) (k + 1) V) a1 V)
    (hP : PatSt E.rows D live n ⟨H, [], wr'⟩ a Hr) (hB : It E.rows base n0 S0 S0 n0 fz0 W0 (J 0) H Hr w) (hf0 : ∀ l, memN l fz0 = true → memN l fz = true) (hS0 : ∀ k, S0 k → k < n0) (hRS : ∀ j r, E.rows j = some r → 0 < r.n → ∀ b off, r.A = some ⟨b, off, none⟩ → S0 b)
    (hdone : ∀ W', J xs.length W' → W'.heap[w.heap.size]? = some (.deferred (some [])) → Q .normal { a with defers := { target := .collected w.heap.size, args := #[] } :: a.defers } W')
    (hstop : ∀ W', Jx W' → W'.heap[w.heap.size]? = some (.deferred (some [])) → cx.wp E.P Q { a with defers := { target := .collected w.heap.size, args := #[] } :: a.defers } W') :
    (Code.rangeFunc g ps assign body).wp E.P Q a w := by
  have hn0 : n0 ≤ w.heap.size := by have := hB.n0v; have := hB.keep.size; omega
  have hS0w : ∀ k, S0 k → k < w.heap.size := fun k hk => by have := hS0 k hk; omega
  obtain ⟨r, vs, rfl, ht, hBl, hnd⟩ := hP
  have hbl := hBl.len
  have hHr0 : (nums Hr).length = H.length := by rw [← hbl]; simp [nums]
  have hfl := evO_sound (D := D) ht _ _ (hgf r)
  generalize hge : (⟨vs.toArray, D⟩ : Act).eval g = gv at hfl
  cases hfl with | func hcaps =>
  rename_i lb
  have hlab0 : ∀ (l : Nat) (q : Num), (nums Hr)[l]? = some q → q.ph = false → (n0 ≤ q.b ∨ (S0 q.b ∧ memN l fz = true)) ∧ q.b < w.heap.size := fun l q hq hp => ⟨(hB.lab l q hq hp).imp (·.1) (fun h => ⟨h.1, hf0 l h.2⟩), nums_lt hB.own.1 hBl.len hq hp⟩
  refine wp_each (w0 := w) (xs := xs) (encs := encs) (S := Sin S0 n0 fz Hr w) hge (fun args w => eg args w) (hseq lb hcaps) (fun k hk => hk.1) (Keep.refl _ _) hps
    (fun k V => ItR E.rows S0 Hr w (Hk k) (J k) V) (fun c _ V => c = cx ∧ Jx V) (itR_any hB.own.1 hBl.len hn0 hJ hS0w) (fun c k V V' row ⟨h1, h2⟩ hg hr => ⟨h1, hJx () V V' row h2 hg (fun r e => Nat.le_trans hn0 (hr r e))⟩)
    ⟨Hr, rfl, by rw [h0]; exact hBl, by rw [h0]; exact hnd, by rw [h0]; exact hB.own.1, hB.j, Keep.refl _ _⟩ ?round (fun W' ⟨_, _, _, _, _, hj, _⟩ hm => hdone W' hj hm) (fun c k W' _ ⟨hc, hj⟩ hm => by subst hc; exact hstop W' hj hm)
  rintro l k x V hxk ⟨Hr1, hn1, hrel, hap, hown, hj, hkw⟩ hl
  have hRdV : Rd E.rows (bs (nums Hr)) V := rd_keep hB.own.2 hkw hRS
  have hOK : OwnK E.rows (Hk k) Hr1 V := ⟨hown, by rw [hn1]; exact hRdV⟩
  have hR0 : RelSt E.rows [] ⟨setps (pat live r 0 n) ps.toList (xA k x), ⟨Hk k, [], wrZ fz⟩⟩ { tmps := (ps.zip (encs k x)).foldl (fun (t : Array Value) (x : Tmp × Value) => t.setIfInBounds x.1 x.2) vs.toArray, defers := [] } Hr1 := by
    refine ⟨setvs vs ps.toList (encs k x).toList, ?_, ?_, ?_, hap⟩
    · have := setvs_act ps.toList (encs k x).toList vs
      rw [Array.toArray_toList, Array.toArray_toList] at this
      rw [this]
    · rw [hn1]; exact setps_rel ht (RelL.of_plains (hx k x hxk))
    · rw [hn1]; exact hrel
  have hIt0 : It E.rows (nums Hr) n0 S0 (Sin S0 n0 fz Hr w) w.heap.size fz V (J k) (Hk k) Hr1 V := by
    refine ⟨hOK, fun l q hq hp => ?_, Nat.le_trans hn0 hkw.size, fun k hk => Nat.lt_of_lt_of_le hk.1 hkw.size, fun k hk l q hq hp hb => ?_, Keep.refl _ _, ⟨[], by rw [hn1]; simp⟩, hj⟩
    · rw [hn1] at hq
      obtain ⟨x1, x2⟩ := hlab0 l q hq hp
      exact x1.imp (fun h => ⟨h, .inl x2⟩) id
    · rw [hn1] at hq
      rcases hk.2 with hk | hk
      · rcases (hlab0 l q hq hp).1 with h | h
        · have := hS0 k hk; omega
        · exact h.2
      · exact hk.2 l q hq hp hb
  have hJk : AnyN n0 (J k) := fun _ V V' row h hg hr => hJ k V V' row h hg hr
  obtain ⟨e, st1, hk1, hwr1, hs1⟩ := ev_in hE l nf assign _ _ hin (hassign k x r hxk).is
  refine wpIn_mono (hs1 _ Hr1 V hR0 hOK) ?_
  rintro e' a1 V1 ⟨rfl, Hr2, hR2, hO2, hS2⟩
  unfold chE at hk1
  simp only [Prod.mk.injEq] at hk1
  obtain ⟨he, hn, hlv, hH, hds⟩ := hk1
  rw [eqE_eq he]
  have hIt1 := hIt0.stp hJk hO2 hS2
  have hP1 := patSt_of (live := live) hR2 hn (lives_of hlv)
  have hBl2 : RelB E.rows (nums Hr2) st1.m.H Hr2 := by obtain ⟨_, _, _, hb, _⟩ := hR2; exact hb
  obtain ⟨σ, hσ⟩ := hIt1.ext
  have hH2 : (nums Hr2).length = st1.m.H.length := by rw [← hBl2.len]; simp [nums]
  refine ⟨hIt1.keep, fun V2 => OwnM st1.m.H Hr2 V2 ∧ J k V2 ∧ Keep S0 w V2, ?_, ⟨hO2.1, hIt1.j, hkw.trans (hIt1.keep.mono fun k hk => .inl ⟨hS0w k hk, .inl hk⟩)⟩, ?_⟩
  · intro u W W' row ⟨ho, hjj, hkk⟩ hg hr
    refine ⟨fun l it q g1 g2 hq => ?_, hJ k W W' row hjj hg (fun r e => Nat.le_trans hn0 (hr r e).1), any_keep (β := Unit) (fun k hk => .inl (hS0w k hk)) () W W' row hkk hg (fun r e => (hr r e).1)⟩
    obtain ⟨x1, x2⟩ := ho l it q g1 g2 hq
    refine ⟨Nat.lt_of_lt_of_le x1 hg.size, fun hv => ?_⟩
    rw [hg.block q.b x1 fun e => by
      obtain ⟨hge', o, ho1, ho2⟩ := hr _ e.symm
      rw [x2 hv] at ho1
      cases ho1
      have hrel := hBl2.2 l it q g1 g2
      have g4 := nums_get g2
      have hqn : q.num.b = q.b := rfl
      have hq' := hq
      generalize q.num = qn at g4 hqn hq'
      cases hrel with
      | cells _ _ => simp [Obj.isCells] at ho2
      | row _ _ _ _ _ => simp [Obj.isCells] at ho2
      | row0 h0 => rw [h0] at hq; cases hq
      | map _ _ =>
        rcases Nat.lt_or_ge l H.length with hlt | hge2
        · rw [hσ, List.getElem?_append_left (by rw [hHr0]; exact hlt)] at g4
          have := (hlab0 l qn g4 hq').2
          simp only at hqn hge'
          omega
        · have hnm' := hnm k x
          rw [← hH] at hnm'
          exact noMap_get hnm' (l := l - H.length) (by rw [List.getElem?_drop, Nat.add_sub_cancel' hge2]; exact g1)
      | gone => cases hv]
    exact x2 hv
  · rintro V2 ⟨ho, hjj, hkk⟩
    refine hbody l k x V2 a1 Hr2 hxk (by rw [← hH]; exact hP1) ?_ hkk
    rw [← hH]
    refine ⟨⟨ho, ?_⟩, fun l q hq hp => ?_, Nat.le_trans hn0 hkk.size, fun k hk => Nat.lt_of_lt_of_le hk.1 hkk.size, fun k hk l q hq hp hb => ?_, Keep.refl _ _, ⟨σ, hσ⟩, hjj⟩
    · intro j rr hj b off hA h0
      obtain ⟨y1, _, _⟩ := hO2.2 j rr hj b off hA h0
      obtain ⟨_, z2, z3⟩ := rd_keep hB.own.2 hkk hRS j rr hj b off hA h0
      exact ⟨y1, z2, z3⟩
    · refine (hIt1.lab l q hq hp).imp (fun h => ⟨h.1, ?_⟩) (fun h => ⟨h.1, hf1 l h.2⟩)
      rcases Nat.lt_or_ge l H.length with hlt | hge
      · rw [hσ, List.getElem?_append_left (by rw [hHr0]; exact hlt)] at hq
        exact .inl (hlab0 l q hq hp).2
      · exact .inr (.inr (hf2 k x l hge (by rw [← hH, ← hH2]; exact (List.getElem?_eq_some_iff.1 hq).1)))
    · exact hf1 l (hIt1.frz k hk l q hq hp hb)
end
/-- The way in. -/
theorem it_enter {R : Rws} {P : Program} {f : FuncId} {fn : Func} {c : Code} (hf : P.funcs[f]? = some fn) (hb : fn.body = some c) {l : Nat} {caps : List AV} {lb : List Value} (hn : caps.length + 1 ≤ fn.ntmps) {Hr : List RBlk} {H : Mem} {W : World} {S0 : Nat → Prop} {fz : List Nat} {J : World → Prop} {Q : Ending → World → Prop} (ha : RelL R (nums Hr) caps lb) (hBl : RelB R (nums Hr) H Hr) (hA : Apart H Hr) (hO : OwnM H Hr W) (hRd : Rd R (bs (nums Hr)) W)
    (hlab : ∀ (l : Nat) (q : Num), (nums Hr)[l]? = some q → q.ph = false → S0 q.b ∧ memN l fz = true) (hS0 : ∀ k, S0 k → k < W.heap.size) (hj : J W)
    (h : ∀ a, a.defers = [] → PatSt R [] (inLive 0 (AV.func (.yield l) [] :: caps)) fn.ntmps ⟨H, [], wrZ fz⟩ a Hr → It R (nums Hr) W.heap.size S0 S0 W.heap.size fz W J H Hr W → c.wp P (bodyPostM Fence.wide 0 P fn Q) a W) : Calls P f (#[.func (.yield l) #[] #[]] ++ lb.toArray) W Q := by
  refine calls_marks hf hb (h _ rfl ?_ ⟨⟨hO, hRd⟩, fun l q hq hp => .inr (hlab l q hq hp), Nat.le_refl _, hS0, fun k hk l q hq hp _ => (hlab l q hq hp).2, Keep.refl _ _, ⟨[], by simp⟩, hj⟩)
  have hl := ha.len
  have hR : RelSt R [] ⟨(AV.func (.yield l) [] :: caps) ++ List.replicate (fn.ntmps - (caps.length + 1)) undefA, ⟨H, [], wrZ fz⟩⟩ ⟨(#[Value.func (.yield l) #[] #[]] ++ lb.toArray) ++ Array.replicate (fn.ntmps - (#[Value.func (.yield l) #[] #[]] ++ lb.toArray).size) undef, []⟩ Hr := by
    refine ⟨(Value.func (.yield l) #[] #[] :: lb) ++ List.replicate (fn.ntmps - (caps.length + 1)) undef, ?_, RelL.append (RelL.cons (Rel.func (vs := []) .nil) ha) (RelL.rep .raw _), hBl, hA⟩
    congr 1
    apply Array.toList_inj.1
    simp [hl, Nat.add_comm]
  exact patSt_of (live := []) hR (by simp; omega) (fun i v hv => by
    obtain ⟨_, h2⟩ := look_in hv
    simp only [Nat.sub_zero] at h2
    rw [List.getElem?_append_left (List.getElem?_eq_some_iff.1 h2).1]; exact h2)
/-- A call of yield, as the outer range tells it. -/
theorem yield_at {P : Program} {l k : Nat} {args : Array Value} {V : World} {S S0 : Nat → Prop} {n0 : Nat} {J Jx : Nat → World → Prop} (h : YieldAt Fence.wide 0 P l args V fun e W' => (e = .returned (.bool true) ∧ J (k + 1) W' ∧ Keep (fun b => S b ∨ n0 ≤ b) V W') ∨ (e = .returned (.bool false) ∧ Jx (k + 1) W' ∧ Keep (fun b => n0 ≤ b) V W')) (hS : ∀ b, S0 b → S b) : YieldAt Fence.wide 0 P l args V (YPost S0 n0 (J (k + 1)) (Jx (k + 1)) V) := by
  obtain ⟨fn, tmps, assign, body, h1, h2⟩ := h
  refine ⟨fn, tmps, assign, body, h1, h2.mono fun e W' he => ?_⟩
  rcases he with ⟨a, b, c⟩ | he
  · exact .inl ⟨a, b, c.mono fun q hq => hq.imp (hS q) id⟩
  · exact .inr he
def isSc : Code → Bool
  | .scope _ => true
  | _ => false
def scB : Code → Code
  | .scope c => c
  | c => c
def isRf : Code → Bool
  | .rangeFunc _ _ _ _ => true
  | _ => false
def rfG : Code → Operand
  | .rangeFunc g _ _ _ => g
  | _ => .const undef
def rfP : Code → Array Tmp
  | .rangeFunc _ p _ _ => p
  | _ => #[]
def rfA : Code → Code
  | .rangeFunc _ _ a _ => a
  | c => c
def rfB : Code → Code
  | .rangeFunc _ _ _ b => b
  | c => c
def isDr : Code → Bool
  | .region _ _ true => true
  | _ => false
def isLs : Code → Bool
  | .region _ _ false => true
  | _ => false
def rgOps : Code → List Oper
  | .region _ ops _ => ops.toList
  | _ => []
section
variable {P : Program} {F : Fence} {c : Code} {Q : Exit → Act → World → Prop} {a : Act} {w : World}
theorem wp_sc (hc : isSc c = true) (h : (scB c).wp P (Exit.noGoto Q) a w) : c.wp P Q a w := by
  cases c <;> first | exact wp_scope_straight h | cases hc
theorem in_parts (hc : isSq c = true) (h : (sL c).wpIn F 0 P (Exit.then ((sR c).wpIn F 0 P Q) Q) a w) : c.wpIn F 0 P Q a w := by
  cases c <;> first | exact wpIn_seq h | cases hc
theorem in_bk (hc : isBk c = true) (h : (bkB c).wpIn F 0 P (Exit.inBlock (bkI c) Q) a w) : c.wpIn F 0 P Q a w := by
  cases c <;> first | exact wpIn_block h | cases hc
theorem in_lp (hc : isLp c = true) (h : (Code.loop (lpB c)).wpIn F 0 P Q a w) : c.wpIn F 0 P Q a w := by
  cases c <;> first | exact h | cases hc
theorem in_ls (hc : isLs c = true) (h : wpListIn F 0 P (rgOps c).toArray Q (rgOps c) a w) : c.wpIn F 0 P Q a w := by
  cases c <;> try cases hc
  rename_i id ops d
  cases d
  · exact wpIn_region_list (by simpa [rgOps] using h)
  · cases hc
theorem in_dr (hc : isDr c = true) (h : ∀ id, (Code.region id (rgOps c).toArray true).wpIn F 0 P Q a w) : c.wpIn F 0 P Q a w := by
  cases c <;> try cases hc
  rename_i id ops d
  cases d
  · cases hc
  · have := h id
    simpa [rgOps] using this
theorem wp_in (h : c.wpIn Fence.wide 0 P Q a w) : c.wp P Q a w := (wpIn_wide (n := 0)).1 h
theorem in_nil (h : Q .normal a w) {ops : Array Oper} : wpListIn F 0 P ops Q [] a w := h
theorem no_then {K : Act → World → Prop} (h : ¬ LetsOut Q) : ¬ LetsOut (Exit.then K Q) := fun ⟨a, w, h'⟩ => h ⟨a, w, h'⟩
theorem no_bk {i : Nat} (h : ¬ LetsOut Q) : ¬ LetsOut (Exit.inBlock i Q) := fun ⟨a, w, h'⟩ => h ⟨a, w, h'⟩
theorem no_each {B : Nat} {S : Nat → Prop} {I : Nat → World → Prop} {Ix : Code → Nat → World → Prop} {k : Nat} {W : World} : ¬ LetsOut (eachPost B S I Ix k W) := fun ⟨_, _, h⟩ => h
end
theorem rf_eq {c : Code} (hc : isRf c = true) : c = .rangeFunc (rfG c) (rfP c) (rfA c) (rfB c) := by
  cases c <;> first | rfl | cases hc
end

section
attribute [local go_sem] Oper.semAt_some

abbrev encN : Nat → Nat → Array Value := fun _ x => #[.int .i64 (x : Int)]
def PlRel (J : Nat → World → Prop) (n : Nat) (S : Nat → Prop) (w0 : World) (i : Value) (wr : World) : Prop := ∃ k : Nat, k ≤ n ∧ i = .int .i64 k ∧ J k wr ∧ Keep S w0 wr
set_option maxHeartbeats 4000000 in
theorem places1_seq (b n : Nat) (w0 : World) (S : Nat → Prop) (hc : w0.cell? ⟨b, 0, none⟩ = some (.int .i64 (n : Int))) (hn : n ≤ 100000) (hb : S b) :
    Seq Tryd.prog 61 #[.pointer (some ⟨b, 0, none⟩)] encN (List.range n) S w0 := by
  intro l J Jx W hW hJ hJx hY h0
  have hcW : W.cell? ⟨b, 0, none⟩ = some (.int .i64 (n : Int)) := hW.cell hc hb
  have HY := Lib.hid hY
  have HJ := Lib.hid hJ
  have HX := Lib.hid hJx
  clear hY hJ hJx
  rw [List.length_range]
  refine (callsIn_wide (n := 0)).1 (callsIn_of_wp Tryd.func61 rfl trivial ?_ rfl)
  simp only [Tryd.ntmps61, List.size_toArray, List.length_cons, List.length_nil, Nat.reduceAdd, Nat.reduceSub, Array.replicate_succ, Array.replicate_zero, List.push_toArray, List.append_toArray, List.nil_append, List.cons_append]
  gi_wp2
  gi_loopw [5] (fun i wr => PlRel J n S w0 i wr) (fun i _ => n - (intOf i).toNat)
  case atStart => exact ⟨0, Nat.zero_le _, rfl, h0, hW⟩
  case round =>
    obtain ⟨k, hk, rfl, hj, hb⟩ := hrel
    by_cases hlt' : k < n
    · obtain ⟨fn, tmps, assign, body, hy, hR⟩ := HY.out k k _ (by simp [hlt']) hj
      try simp only [encN] at hy
      gi_wp2
      refine ⟨rfl, ?_⟩
      refine hR.mono ?_
      rintro e W' (⟨rfl, hJ', hk'⟩ | ⟨rfl, hJx', _⟩)
      · have hb3 := hb.trans (hk'.mono (fun _ h => .inl h))
        clear hk' hy hR hb
        gi_wp2
        exact ⟨⟨k + 1, by omega, by go_num, hJ', hb3⟩, by simp [intOf]; omega⟩
      · clear hy hR hb
        gi_wp2
        refine bodyPost_ret (results_none rfl _ _ _) rfl ?_
        exact ⟨⟨_, rfl⟩, .inr ⟨k + 1, by omega, hJx'⟩⟩
    · obtain rfl : k = n := by omega
      gi_wp2
      go_end0
      exact ⟨⟨_, rfl⟩, .inl hj⟩
abbrev encQ (x : BitVec 256) : Nat → Nat → Array Value := fun _ i => #[.int .i64 (i : Int), .int .u64 (L x i)]
theorem pa_0 (l : Nat) (x : BitVec 256) : ∀ r, Is (evT (mkEnv noRows []) 60 (.code (sL (Tryd.f57.body.getD .skip))) ⟨pat (inLive 0 [.func (.yield l) [], .ptr 0 0]) r 0 Tryd.f57.ntmps, ⟨[AIt.cells (wC x) 24], [], wrZ [0]⟩⟩ (chE .normal [(1, .ptr 0 0), (2, .ptr 1 0)] Tryd.f57.ntmps [AIt.cells (wC x) 24, AIt.cells [.func (.yield l) []] 74] [])) := fun r => ev_eq [] (true, Tryd.f57.ntmps, ([(1, .ptr 0 0), (2, .ptr 1 0)] : List (Nat × AV)).map (fun p => some p.2), ([AIt.cells (wC x) 24, AIt.cells [.func (.yield l) []] 74] : Mem), ([] : List Bool)) (by kernel_rfl) trivial
theorem pa_1 (l : Nat) (x : BitVec 256) : ∀ r, Is (evT (mkEnv noRows []) 60 (.code (sL (scB (sR (Tryd.f57.body.getD .skip))))) ⟨pat [(1, .ptr 0 0), (2, .ptr 1 0)] r 0 Tryd.f57.ntmps, ⟨[AIt.cells (wC x) 24, AIt.cells [.func (.yield l) []] 74], [], wrZ [0]⟩⟩ (chE .normal [(1, .ptr 0 0), (2, .ptr 1 0)] Tryd.f57.ntmps [AIt.cells (wC x) 24, AIt.cells [.func (.yield l) []] 74] [])) := fun r => ev_eq [] (true, Tryd.f57.ntmps, ([(1, .ptr 0 0), (2, .ptr 1 0)] : List (Nat × AV)).map (fun p => some p.2), ([AIt.cells (wC x) 24, AIt.cells [.func (.yield l) []] 74] : Mem), ([] : List Bool)) (by kernel_rfl) trivial
theorem pa_2 (l : Nat) (x : BitVec 256) : ∀ r, Is (evT (mkEnv noRows []) 60 (.code (sL (sR (scB (sR (Tryd.f57.body.getD .skip)))))) ⟨pat [(1, .ptr 0 0), (2, .ptr 1 0)] r 0 Tryd.f57.ntmps, ⟨[AIt.cells (wC x) 24, AIt.cells [.func (.yield l) []] 74], [], wrZ [0]⟩⟩ (chE .normal [(1, .ptr 0 0), (2, .ptr 1 0), (4, .func (.func 61) [.ptr 2 0])] Tryd.f57.ntmps [AIt.cells (wC x) 24, AIt.cells [.func (.yield l) []] 74, AIt.cells [.int .i64 true 4] 3] [])) := fun r => ev_eq [] (true, Tryd.f57.ntmps, ([(1, .ptr 0 0), (2, .ptr 1 0), (4, .func (.func 61) [.ptr 2 0])] : List (Nat × AV)).map (fun p => some p.2), ([AIt.cells (wC x) 24, AIt.cells [.func (.yield l) []] 74, AIt.cells [.int .i64 true 4] 3] : Mem), ([] : List Bool)) (by kernel_rfl) trivial
noncomputable def paOps : List Oper := rgOps (sL (bkB (rfB (bkB (sR (sR (scB (sR (Tryd.f57.body.getD .skip)))))))))
noncomputable def paPlan : Plan := planAt (mkEnv noRows []).gen (mkEnv noRows []).eff paOps 5
theorem paPlan_ok : paPlan.ok paOps = true := by kernel_rfl
theorem pa_as (l : Nat) (x : BitVec 256) (i : Nat) : ∀ r, Is (evT (mkEnv noRows []) 60 (.code (rfA (bkB (sR (sR (scB (sR (Tryd.f57.body.getD .skip)))))))) ⟨setps (pat [(1, .ptr 0 0), (2, .ptr 1 0), (4, .func (.func 61) [.ptr 2 0])] r 0 Tryd.f57.ntmps) (rfP (bkB (sR (sR (scB (sR (Tryd.f57.body.getD .skip))))))).toList [.int .i64 true (i : Int)], ⟨[AIt.cells (wC x) 24, AIt.cells [.func (.yield l) []] 74, AIt.cells [.int .i64 true 4] 3], [], wrZ [0, 2]⟩⟩ (chE .normal [(1, .ptr 0 0), (2, .ptr 1 0), (3, .int .i64 true ((i : Nat) : Int))] Tryd.f57.ntmps [AIt.cells (wC x) 24, AIt.cells [.func (.yield l) []] 74, AIt.cells [.int .i64 true 4] 3] [])) := fun r => ev_eq [] (true, Tryd.f57.ntmps, ([(1, .ptr 0 0), (2, .ptr 1 0), (3, .int .i64 true ((i : Nat) : Int))] : List (Nat × AV)).map (fun p => some p.2), ([AIt.cells (wC x) 24, AIt.cells [.func (.yield l) []] 74, AIt.cells [.int .i64 true 4] 3] : Mem), ([] : List Bool)) (by kernel_rfl) trivial
theorem pa_h0 (l : Nat) (x : BitVec 256) : ∀ r, Is (headP (mkEnv noRows []) (callWith (mkEnv noRows []) (evT (mkEnv noRows []) 60)) ([AIt.cells (wC x) 24, AIt.cells [.func (.yield l) []] 74, AIt.cells [.int .i64 true 4] 3] : Mem).length (statOf (mkEnv noRows []) ⟨pat [(1, .ptr 0 0), (2, .ptr 1 0), (3, .int .i64 true ((0 : Nat) : Int))] r 0 Tryd.f57.ntmps, ⟨[AIt.cells (wC x) 24, AIt.cells [.func (.yield l) []] 74, AIt.cells [.int .i64 true 4] 3], [], wrZ [0, 2]⟩⟩ paOps paPlan.n paPlan.ord) paOps paPlan.ord ⟨pat [(1, .ptr 0 0), (2, .ptr 1 0), (3, .int .i64 true ((0 : Nat) : Int))] r 0 Tryd.f57.ntmps, ⟨[AIt.cells (wC x) 24, AIt.cells [.func (.yield l) []] 74, AIt.cells [.int .i64 true 4] 3], [], wrZ [0, 2]⟩⟩ (chK [(6, .func (.yield l) []), (7, .int .i64 true ((0 : Nat) : Int)), (10, .bv .u64 (limb x 0))] Tryd.f57.ntmps [AIt.cells (wC x) 24, AIt.cells [.func (.yield l) []] 74, AIt.cells [.int .i64 true 4] 3] [] .normal)) := fun r => ev_eq [] (chR [(6, .func (.yield l) []), (7, .int .i64 true ((0 : Nat) : Int)), (10, .bv .u64 (limb x 0))] Tryd.f57.ntmps [AIt.cells (wC x) 24, AIt.cells [.func (.yield l) []] 74, AIt.cells [.int .i64 true 4] 3] []) (by kernel_rfl) trivial
theorem pa_h1 (l : Nat) (x : BitVec 256) : ∀ r, Is (headP (mkEnv noRows []) (callWith (mkEnv noRows []) (evT (mkEnv noRows []) 60)) ([AIt.cells (wC x) 24, AIt.cells [.func (.yield l) []] 74, AIt.cells [.int .i64 true 4] 3] : Mem).length (statOf (mkEnv noRows []) ⟨pat [(1, .ptr 0 0), (2, .ptr 1 0), (3, .int .i64 true ((1 : Nat) : Int))] r 0 Tryd.f57.ntmps, ⟨[AIt.cells (wC x) 24, AIt.cells [.func (.yield l) []] 74, AIt.cells [.int .i64 true 4] 3], [], wrZ [0, 2]⟩⟩ paOps paPlan.n paPlan.ord) paOps paPlan.ord ⟨pat [(1, .ptr 0 0), (2, .ptr 1 0), (3, .int .i64 true ((1 : Nat) : Int))] r 0 Tryd.f57.ntmps, ⟨[AIt.cells (wC x) 24, AIt.cells [.func (.yield l) []] 74, AIt.cells [.int .i64 true 4] 3], [], wrZ [0, 2]⟩⟩ (chK [(6, .func (.yield l) []), (7, .int .i64 true ((1 : Nat) : Int)), (10, .bv .u64 (limb x 1))] Tryd.f57.ntmps [AIt.cells (wC x) 24, AIt.cells [.func (.yield l) []] 74, AIt.cells [.int .i64 true 4] 3] [] .normal)) := fun r => ev_eq [] (chR [(6, .func (.yield l) []), (7, .int .i64 true ((1 : Nat) : Int)), (10, .bv .u64 (limb x 1))] Tryd.f57.ntmps [AIt.cells (wC x) 24, AIt.cells [.func (.yield l) []] 74, AIt.cells [.int .i64 true 4] 3] []) (by kernel_rfl) trivial
theorem pa_h2 (l : Nat) (x : BitVec 256) : ∀ r, Is (headP (mkEnv noRows []) (callWith (mkEnv noRows []) (evT (mkEnv noRows []) 60)) ([AIt.cells (wC x) 24, AIt.cells [.func (.yield l) []] 74, AIt.cells [.int .i64 true 4] 3] : Mem).length (statOf (mkEnv noRows []) ⟨pat [(1, .ptr 0 0), (2, .ptr 1 0), (3, .int .i64 true ((2 : Nat) : Int))] r 0 Tryd.f57.ntmps, ⟨[AIt.cells (wC x) 24, AIt.cells [.func (.yield l) []] 74, AIt.cells [.int .i64 true 4] 3], [], wrZ [0, 2]⟩⟩ paOps paPlan.n paPlan.ord) paOps paPlan.ord ⟨pat [(1, .ptr 0 0), (2, .ptr 1 0), (3, .int .i64 true ((2 : Nat) : Int))] r 0 Tryd.f57.ntmps, ⟨[AIt.cells (wC x) 24, AIt.cells [.func (.yield l) []] 74, AIt.cells [.int .i64 true 4] 3], [], wrZ [0, 2]⟩⟩ (chK [(6, .func (.yield l) []), (7, .int .i64 true ((2 : Nat) : Int)), (10, .bv .u64 (limb x 2))] Tryd.f57.ntmps [AIt.cells (wC x) 24, AIt.cells [.func (.yield l) []] 74, AIt.cells [.int .i64 true 4] 3] [] .normal)) := fun r => ev_eq [] (chR [(6, .func (.yield l) []), (7, .int .i64 true ((2 : Nat) : Int)), (10, .bv .u64 (limb x 2))] Tryd.f57.ntmps [AIt.cells (wC x) 24, AIt.cells [.func (.yield l) []] 74, AIt.cells [.int .i64 true 4] 3] []) (by kernel_rfl) trivial
theorem pa_h3 (l : Nat) (x : BitVec 256) : ∀ r, Is (headP (mkEnv noRows []) (callWith (mkEnv noRows []) (evT (mkEnv noRows []) 60)) ([AIt.cells (wC x) 24, AIt.cells [.func (.yield l) []] 74, AIt.cells [.int .i64 true 4] 3] : Mem).length (statOf (mkEnv noRows []) ⟨pat [(1, .ptr 0 0), (2, .ptr 1 0), (3, .int .i64 true ((3 : Nat) : Int))] r 0 Tryd.f57.ntmps, ⟨[AIt.cells (wC x) 24, AIt.cells [.func (.yield l) []] 74, AIt.cells [.int .i64 true 4] 3], [], wrZ [0, 2]⟩⟩ paOps paPlan.n paPlan.ord) paOps paPlan.ord ⟨pat [(1, .ptr 0 0), (2, .ptr 1 0), (3, .int .i64 true ((3 : Nat) : Int))] r 0 Tryd.f57.ntmps, ⟨[AIt.cells (wC x) 24, AIt.cells [.func (.yield l) []] 74, AIt.cells [.int .i64 true 4] 3], [], wrZ [0, 2]⟩⟩ (chK [(6, .func (.yield l) []), (7, .int .i64 true ((3 : Nat) : Int)), (10, .bv .u64 (limb x 3))] Tryd.f57.ntmps [AIt.cells (wC x) 24, AIt.cells [.func (.yield l) []] 74, AIt.cells [.int .i64 true 4] 3] [] .normal)) := fun r => ev_eq [] (chR [(6, .func (.yield l) []), (7, .int .i64 true ((3 : Nat) : Int)), (10, .bv .u64 (limb x 3))] Tryd.f57.ntmps [AIt.cells (wC x) 24, AIt.cells [.func (.yield l) []] 74, AIt.cells [.int .i64 true 4] 3] []) (by kernel_rfl) trivial
theorem pa_t (l : Nat) (x : BitVec 256) (l2 : List (Nat × AV)) : ∀ r, Is (listP (mkEnv noRows []) (callWith (mkEnv noRows []) (evT (mkEnv noRows []) 60)) paOps (((paOps.drop paPlan.n).tail).take 1) ⟨pat ((11, .bool true true) :: l2) r 0 Tryd.f57.ntmps, ⟨[AIt.cells (wC x) 24, AIt.cells [.func (.yield l) []] 74, AIt.cells [.int .i64 true 4] 3], [], wrZ [0, 2]⟩⟩ (chK [(12, .bool true false)] Tryd.f57.ntmps [AIt.cells (wC x) 24, AIt.cells [.func (.yield l) []] 74, AIt.cells [.int .i64 true 4] 3] [] .normal)) := fun r => ev_eq [] (chR [(12, .bool true false)] Tryd.f57.ntmps [AIt.cells (wC x) 24, AIt.cells [.func (.yield l) []] 74, AIt.cells [.int .i64 true 4] 3] []) (by kernel_rfl) trivial
theorem pa_f  : ∀ r, Is (listP (mkEnv noRows []) (callWith (mkEnv noRows []) (evT (mkEnv noRows []) 60)) paOps (((paOps.drop paPlan.n).tail).take 1) ⟨pat [(11, .bool true false)] r 0 Tryd.f57.ntmps, ⟨[], [], wrZ [0, 2]⟩⟩ (chK [(12, .bool true true)] Tryd.f57.ntmps [] [] .normal)) := fun r => ev_eq [] (chR [(12, .bool true true)] Tryd.f57.ntmps [] []) (by kernel_rfl) trivial
theorem pa_tc (l : Nat) (x : BitVec 256) : ∀ r, Is (evT (mkEnv noRows []) 60 (.code (sR (bkB (rfB (bkB (sR (sR (scB (sR (Tryd.f57.body.getD .skip)))))))))) ⟨pat [(12, .bool true false)] r 0 Tryd.f57.ntmps, ⟨[AIt.cells (wC x) 24, AIt.cells [.func (.yield l) []] 74, AIt.cells [.int .i64 true 4] 3], [], wrZ [0, 2]⟩⟩ (chE .normal [] Tryd.f57.ntmps [AIt.cells (wC x) 24, AIt.cells [.func (.yield l) []] 74, AIt.cells [.int .i64 true 4] 3] [])) := fun r => ev_eq [] (true, Tryd.f57.ntmps, ([] : List (Nat × AV)).map (fun p => some p.2), ([AIt.cells (wC x) 24, AIt.cells [.func (.yield l) []] 74, AIt.cells [.int .i64 true 4] 3] : Mem), ([] : List Bool)) (by kernel_rfl) trivial
theorem pa_fc  : ∀ r, Is (evT (mkEnv noRows []) 60 (.code (sR (bkB (rfB (bkB (sR (sR (scB (sR (Tryd.f57.body.getD .skip)))))))))) ⟨pat [(12, .bool true true)] r 0 Tryd.f57.ntmps, ⟨[], [], wrZ [0, 2]⟩⟩ (chE (.exit 0) [] Tryd.f57.ntmps [] [])) := fun r => ev_eq [] (true, Tryd.f57.ntmps, ([] : List (Nat × AV)).map (fun p => some p.2), ([] : Mem), ([] : List Bool)) (by kernel_rfl) trivial
theorem pa_nil : ((paOps.drop paPlan.n).tail).drop 1 = [] := by kernel_rfl
set_option maxHeartbeats 8000000 in
theorem parts1_seq (b : Nat) (x : BitVec 256) (w0 : World) (S : Nat → Prop) (hc : Blk w0 b #[.int .u64 (L x 0), .int .u64 (L x 1), .int .u64 (L x 2), .int .u64 (L x 3)] 24) (hb : S b) :
    Seq Tryd.prog 57 #[.pointer (some ⟨b, 0, none⟩)] (encQ x) (List.range 4) S w0 := by
  intro l J Jx W hW hJ hJx hY h0
  have hcW := hW.blk hc hb
  have hblk : W.heap[b]? = some (.cells #[.int .u64 (L x 0), .int .u64 (L x 1), .int .u64 (L x 2), .int .u64 (L x 3)] 24 (0, 0)) := hcW
  have hJ0 : ∀ k, AnyN W.heap.size (J k) := fun k _ V V' row h hg hr => hJ k V V' row h hg hr
  have hS0 : ∀ k, (S k ∧ k < W.heap.size) → k < W.heap.size := fun k h => h.2
  refine it_enter (R := noRows) (P := Tryd.prog) (fn := Tryd.f57) (c := (Tryd.f57.body.getD .skip)) Tryd.func57 (by kernel_rfl) (l := l) (caps := [.ptr 0 0]) (lb := [.pointer (some ⟨b, 0, none⟩)]) (show 1 + 1 ≤ Tryd.f57.ntmps by decide) (Hr := [⟨b, 0, .cells #[.int .u64 (L x 0), .int .u64 (L x 1), .int .u64 (L x 2), .int .u64 (L x 3)] 24 (0, 0)⟩]) (H := [AIt.cells (wC x) 24]) (S0 := fun k => S k ∧ k < W.heap.size) (fz := [0]) (J := J 0)
    (.cons (Rel.ptr (q := ⟨b, 0, 4⟩) rfl) .nil) ⟨rfl, fun k it p h1 h2 => ?_⟩ (fun k m it jt p q hne h1 h2 => ?_) (fun k it p h1 h2 hp => ?_) (rd_no _ _) (fun k q hq hp => ?_) hS0 h0 fun a had hP hB => ?_
  · cases k with
    | zero => cases h1; cases h2; exact .cells (RelL.of_vals (vals_wC x)) rfl
    | succ k => simp at h1
  · cases k with
    | zero => cases m with
      | zero => exact absurd rfl hne
      | succ m => simp at h2
    | succ k => simp at h1
  · cases k with
    | zero => cases h2; exact ⟨hcW.lt, fun _ => hblk⟩
    | succ k => simp at h1
  · cases k with
    | zero => cases hq; exact ⟨⟨hb, hcW.lt⟩, rfl⟩
    | succ k => simp [nums] at hq
  refine wp_in (in_parts (by kernel_rfl) (it_code E0_ok (.inl rfl) (hJ0 0) 60 .normal (by kernel_rfl) (pa_0 l x) hP hB fun a1 Hr1 w1 hP1 hB1 => ?_))
  refine wpIn_wide.2 (wp_sc (by kernel_rfl) (wp_in (in_parts (by kernel_rfl) (it_code E0_ok (.inl rfl) (hJ0 0) 60 .normal (by kernel_rfl) (pa_1 l x) hP1 hB1 fun a2 Hr2 w2 hP2 hB2 => ?_))))
  refine in_parts (by kernel_rfl) (it_code E0_ok (.inl rfl) (hJ0 0) 60 .normal (by kernel_rfl) (pa_2 l x) hP2 hB2 fun a3 Hr3 w3 hP3 hB3 => ?_)
  refine in_bk (by kernel_rfl) (wpIn_wide.2 ?_)
  have hd3 : a3.defers = [] := by obtain ⟨_, vs, rfl, _⟩ := hP3; rfl
  have hBl3 : RelB noRows (nums Hr3) [AIt.cells (wC x) 24, AIt.cells [.func (.yield l) []] 74, AIt.cells [.int .i64 true 4] 3] Hr3 := by obtain ⟨_, vs, _, _, h, _⟩ := hP3; exact h
  have hA3 : Apart [AIt.cells (wC x) 24, AIt.cells [.func (.yield l) []] 74, AIt.cells [.int .i64 true 4] 3] Hr3 := by obtain ⟨_, vs, _, _, _, h⟩ := hP3; exact h
  rw [rf_eq (c := (bkB (sR (sR (scB (sR (Tryd.f57.body.getD .skip))))))) (by kernel_rfl)]
  refine it_each E0_ok 60 (xs := List.range 4) (encs := encN) (live := [(1, .ptr 0 0), (2, .ptr 1 0), (4, .func (.func 61) [.ptr 2 0])]) (n := Tryd.f57.ntmps) (H := [AIt.cells (wC x) 24, AIt.cells [.func (.yield l) []] 74, AIt.cells [.int .i64 true 4] 3]) (gf := 61) (caps := [.ptr 2 0]) (fun r => by kernel_rfl) (enters_of Tryd.func61 (by kernel_rfl) rfl) (by kernel_rfl) [0] [0, 2] [0, 2] ?hseq (fun _ i => [.int .i64 true (i : Int)]) (fun k i _ => rfl) (fun _ _ => rfl) (fun _ => [AIt.cells (wC x) 24, AIt.cells [.func (.yield l) []] 74, AIt.cells [.int .i64 true 4] 3]) rfl (fun _ => rfl) J hJ (fun V => ∃ j, j ≤ 4 ∧ Jx j V) (fun _ V V' row ⟨j, hj, h⟩ hg hr => ⟨j, hj, hJx j V V' row h hg hr⟩) (.exit 0)
    (fun _ i => [(1, .ptr 0 0), (2, .ptr 1 0), (3, .int .i64 true ((i : Nat) : Int))]) (fun _ _ => [AIt.cells (wC x) 24, AIt.cells [.func (.yield l) []] 74, AIt.cells [.int .i64 true 4] 3]) (fun _ h => h) (fun k i q h1 h2 => absurd h2 (by simpa using h1)) (fun k i r _ => pa_as l x i r) (fun _ _ => rfl) ?hbody hP3 hB3 (fun q h => by
      by_cases e : q = 0
      · subst e; rfl
      · simp [memN, Ne.symm e, Nat.beq_eq] at h ⊢; omega) (fun k hk => hk.2) (fun j r h => by cases h) ?hdone ?hstop
  case hseq =>
    intro lb hlb
    cases hlb with | cons h1 h2 =>
    cases h2
    obtain ⟨q, hq, rfl⟩ := rel_ptr h1
    obtain ⟨p, hp, rfl⟩ := nums_at hq
    have hrel := hBl3.2 2 _ p rfl hp
    have hph := hBl3.cph (l := 2) rfl hp
    obtain ⟨q1, q2⟩ := hB3.own.1 2 _ p rfl hp hph
    have hcell : w3.cell? ⟨p.b, 0, none⟩ = some (.int .i64 ((4 : Nat) : Int)) := by
      have hh := q2 rfl
      cases hrel with | cells hr _ =>
      cases hr with | cons r1 r2 =>
      cases r2; cases r1
      simp only [World.cell?, hh]
      rfl
    have hsf := sfz_of (fz := [0, 2]) hBl3 hA3 hB3.own.1 rfl (l := 2) rfl hp hph rfl
    refine places1_seq _ 4 w3 _ hcell (by omega) ⟨q1, .inr ⟨?_, hsf.2⟩⟩
    rcases hB3.lab 2 p.num (nums_get hp) hph with h | h
    · exact h.1
    · exact absurd h.2 (by decide)
  case hbody =>
    intro l' k i V a4 Hr4 hx hP4 hB4 hkw
    have hi : i = k ∧ k < 4 := by
      have h1 := (List.getElem?_eq_some_iff.1 hx).1
      rw [List.getElem?_range (by simpa using h1)] at hx
      exact ⟨(Option.some.inj hx).symm, by simpa using h1⟩
    obtain ⟨rfl, hk4⟩ := hi
    have hS0w : ∀ k, (S k ∧ k < W.heap.size) → k < w3.heap.size := fun k h => by have := hB3.keep.size; omega
    have hlen3 : Hr3.length = 3 := hBl3.1
    have fin : ∀ (live2 : List (Nat × AV)) (a5 : Act) (Hr5 : List RBlk) (w5 : World), (∀ r, evalY (pat live2 r 0 Tryd.f57.ntmps) (paOps.drop paPlan.n) = some (l, [.int .i64 true (i : Int), .bv .u64 (limb x i)], 11)) → live2.all (fun p => Nat.blt p.1 Tryd.f57.ntmps) = true → PatSt noRows [] live2 Tryd.f57.ntmps ⟨[AIt.cells (wC x) 24, AIt.cells [.func (.yield l) []] 74, AIt.cells [.int .i64 true 4] 3], [], wrZ [0, 2]⟩ a5 Hr5 → It noRows (nums Hr3) W.heap.size (fun k => S k ∧ k < W.heap.size) (Sin (fun k => S k ∧ k < W.heap.size) W.heap.size [0, 2] Hr3 w3) w3.heap.size [0, 2] V (J i) [AIt.cells (wC x) 24, AIt.cells [.func (.yield l) []] 74, AIt.cells [.int .i64 true 4] 3] Hr5 w5 → wpListIn (Fence.wide.inRound l') 0 Tryd.prog paOps.toArray (Exit.then ((sR (bkB (rfB (bkB (sR (sR (scB (sR (Tryd.f57.body.getD .skip))))))))).wpIn (Fence.wide.inRound l') 0 Tryd.prog (Exit.inBlock (bkI (rfB (bkB (sR (sR (scB (sR (Tryd.f57.body.getD .skip)))))))) (eachPost w3.heap.size (Sin (fun k => S k ∧ k < W.heap.size) W.heap.size [0, 2] Hr3 w3) (fun k V => ItR noRows (fun k => S k ∧ k < W.heap.size) Hr3 w3 [AIt.cells (wC x) 24, AIt.cells [.func (.yield l) []] 74, AIt.cells [.int .i64 true 4] 3] (J k) V) (fun c _ V => c = .exit 0 ∧ ∃ j, j ≤ 4 ∧ Jx j V) (i + 1) V))) (Exit.inBlock (bkI (rfB (bkB (sR (sR (scB (sR (Tryd.f57.body.getD .skip)))))))) (eachPost w3.heap.size (Sin (fun k => S k ∧ k < W.heap.size) W.heap.size [0, 2] Hr3 w3) (fun k V => ItR noRows (fun k => S k ∧ k < W.heap.size) Hr3 w3 [AIt.cells (wC x) 24, AIt.cells [.func (.yield l) []] 74, AIt.cells [.int .i64 true 4] 3] (J k) V) (fun c _ V => c = .exit 0 ∧ ∃ j, j ≤ 4 ∧ Jx j V) (i + 1) V))) (paOps.drop paPlan.n) a5 w5 := by
      intro live2 a5 Hr5 w5 hev hkeys hP5 hB5
      have hn0w : W.heap.size ≤ w3.heap.size := hB3.keep.size
      refine it_yield (.inr ⟨l', rfl⟩) hev (show 11 < Tryd.f57.ntmps by decide) hkeys (args := #[.int .i64 (i : Int), .int .u64 (L x i)]) (by rw [← limb_L]; rfl) (fun k hk => hk.2.imp id (·.1)) hn0w (fun j r h => by cases h) hP5 hB5 (yield_at (hY i i w5 hx hB5.j) (fun b h => h.1)) (fun a6 w6 hP6 hB6 => ?_) (fun a6 w6 hP6 hB6 => ?_)
      · refine it_ops E0_ok (.inr ⟨l', rfl⟩) (hJ0 (i + 1)) 60 1 (by kernel_rfl) (pa_t l x live2) hP6 hB6 fun a7 Hr7 w7 hP7 hB7 => ?_
        rw [pa_nil]
        refine in_nil (it_code E0_ok (.inr ⟨l', rfl⟩) (hJ0 (i + 1)) 60 .normal (by kernel_rfl) (pa_tc l x) hP7 hB7 fun a8 Hr8 w8 hP8 hB8 => ?_)
        exact it_end hP8 hB8 hkw hS0w (by rw [hlen3]; rfl) (by rw [hlen3]; rfl)
      · refine it_ops E0_ok (.inr ⟨l', rfl⟩) (J := Jx (i + 1)) (fun _ V V' row h hg hr => hJx _ V V' row h hg hr) 60 1 (by kernel_rfl) pa_f hP6 hB6 fun a7 Hr7 w7 hP7 hB7 => ?_
        rw [pa_nil]
        refine in_nil (it_code E0_ok (.inr ⟨l', rfl⟩) (J := Jx (i + 1)) (fun _ V V' row h hg hr => hJx _ V V' row h hg hr) 60 (.exit 0) (by kernel_rfl) pa_fc hP7 hB7 fun a8 Hr8 w8 hP8 hB8 => ?_)
        exact ⟨hB8.keep.mono fun k hk => .inr hk, rfl, i + 1, by omega, hB8.j⟩
    refine in_bk (by kernel_rfl) (in_parts (by kernel_rfl) (in_dr (by kernel_rfl) fun id => ?_))
    have no : ¬ LetsOut (Exit.then ((sR (bkB (rfB (bkB (sR (sR (scB (sR (Tryd.f57.body.getD .skip))))))))).wpIn (Fence.wide.inRound l') 0 Tryd.prog (Exit.inBlock (bkI (rfB (bkB (sR (sR (scB (sR (Tryd.f57.body.getD .skip)))))))) (eachPost w3.heap.size (Sin (fun k => S k ∧ k < W.heap.size) W.heap.size [0, 2] Hr3 w3) (fun k V => ItR noRows (fun k => S k ∧ k < W.heap.size) Hr3 w3 [AIt.cells (wC x) 24, AIt.cells [.func (.yield l) []] 74, AIt.cells [.int .i64 true 4] 3] (J k) V) (fun c _ V => c = .exit 0 ∧ ∃ j, j ≤ 4 ∧ Jx j V) (i + 1) V))) (Exit.inBlock (bkI (rfB (bkB (sR (sR (scB (sR (Tryd.f57.body.getD .skip)))))))) (eachPost w3.heap.size (Sin (fun k => S k ∧ k < W.heap.size) W.heap.size [0, 2] Hr3 w3) (fun k V => ItR noRows (fun k => S k ∧ k < W.heap.size) Hr3 w3 [AIt.cells (wC x) 24, AIt.cells [.func (.yield l) []] 74, AIt.cells [.int .i64 true 4] 3] (J k) V) (fun c _ V => c = .exit 0 ∧ ∃ j, j ≤ 4 ∧ Jx j V) (i + 1) V))) := no_then (no_bk no_each)
    rcases (by omega : i = 0 ∨ i = 1 ∨ i = 2 ∨ i = 3) with rfl | rfl | rfl | rfl
    · exact it_dhead E0_ok (.inr ⟨l', rfl⟩) (hJ0 0) 60 paPlan_ok (by kernel_rfl) no (pa_h0 l x) hP4 hB4 fun a5 Hr5 w5 hP5 hB5 => fin _ a5 Hr5 w5 (fun r => by kernel_rfl) (by kernel_rfl) hP5 hB5
    · exact it_dhead E0_ok (.inr ⟨l', rfl⟩) (hJ0 1) 60 paPlan_ok (by kernel_rfl) no (pa_h1 l x) hP4 hB4 fun a5 Hr5 w5 hP5 hB5 => fin _ a5 Hr5 w5 (fun r => by kernel_rfl) (by kernel_rfl) hP5 hB5
    · exact it_dhead E0_ok (.inr ⟨l', rfl⟩) (hJ0 2) 60 paPlan_ok (by kernel_rfl) no (pa_h2 l x) hP4 hB4 fun a5 Hr5 w5 hP5 hB5 => fin _ a5 Hr5 w5 (fun r => by kernel_rfl) (by kernel_rfl) hP5 hB5
    · exact it_dhead E0_ok (.inr ⟨l', rfl⟩) (hJ0 3) 60 paPlan_ok (by kernel_rfl) no (pa_h3 l x) hP4 hB4 fun a5 Hr5 w5 hP5 hB5 => fin _ a5 Hr5 w5 (fun r => by kernel_rfl) (by kernel_rfl) hP5 hB5
  case hdone =>
    intro V hj hD
    rw [hd3]
    exact end_mark1 hD (results_none rfl _ _ _) ⟨⟨_, rfl⟩, .inl (hJ 4 _ _ _ hj (grownBy_putObj' _ _ _) (fun r e => by cases e; exact hB3.keep.size))⟩
  case hstop =>
    rintro V ⟨j, hj4, hj⟩ hD
    refine wp_exit ?_
    rw [hd3]
    exact end_mark1 hD (results_none rfl _ _ _) ⟨⟨_, rfl⟩, .inr ⟨j, by simpa using hj4, hJx j _ _ _ hj (grownBy_putObj' _ _ _) (fun r e => by cases e; exact hB3.keep.size)⟩⟩
end

section
def TabTz (g : Nat) (w : World) : Prop := ∀ j, j < 64 → w.cell? ⟨g, j, none⟩ = some (.int .u8 ((Lib.deBruijn64tab.getD j 0 : Nat) : Int))
set_option maxHeartbeats 1000000 in
theorem tz_core (x k idx : Nat) (w : World) (hx0 : ((x : Int) == 0) = false)
    (key : IntKind.u64.wrap (bits BinOp.and IntKind.u64 (x : Int) (IntKind.u64.wrap (-(x : Int))) * 285870213051353865) / 288230376151711744 = (idx : Int))
    (hi : idx < 64) (hk : k < 64) (hcell : w.cell? ⟨0, idx, none⟩ = some (.int .u8 k)) :
    Calls Tryd.prog 43 #[.int .u64 x] w fun e w' => e = .returned (.int .i64 k) ∧ w' = w := by
  go_enter Tryd.func43, Tryd.ntmps43
  go_wp2_with (simp only [key])
  go_ret
  exact ⟨rfl, rfl⟩
theorem tz_zero (w : World) : Calls Tryd.prog 43 #[.int .u64 0] w fun e w' => e = .returned (.int .i64 64) ∧ w' = w := by
  go_enter Tryd.func43, Tryd.ntmps43
  go_wp2
  go_ret
  exact ⟨rfl, rfl⟩
theorem tz_key (x a : Nat) (hx : x < 18446744073709551616) (hx0 : x ≠ 0) (hlow : x &&& (18446744073709551616 - x) = a) :
    IntKind.u64.wrap (bits BinOp.and IntKind.u64 (x : Int) (IntKind.u64.wrap (-(x : Int))) * 285870213051353865) / 288230376151711744 = ((a * 285870213051353865 % 18446744073709551616 / 288230376151711744 : Nat) : Int) := by
  have e1 : IntKind.u64.wrap (-(x : Int)) = ((18446744073709551616 - x : Nat) : Int) := by rw [IntKind.wrap_u64]; omega
  rw [e1, bits_and_u64_nat x _ hx (by omega), hlow, IntKind.wrap_u64]
  omega
theorem tz_any (x : Nat) (hx : x < 18446744073709551616) (w : World) (hT : TabTz 0 w) :
    Calls Tryd.prog 43 #[.int .u64 x] w fun e w' => e = .returned (.int .i64 (Lib.ctz 64 x)) ∧ w' = w := by
  by_cases hx0 : x = 0
  · subst hx0
    exact tz_zero w
  · obtain ⟨hlow, hk⟩ := Lib.lowest_bit 64 x hx0 hx
    obtain ⟨hi, htab⟩ := Lib.deBruijn64_at _ hk
    have hcell := hT _ hi
    rw [htab] at hcell
    exact tz_core x _ _ w (by simp; omega) (tz_key x _ hx hx0 hlow) hi hk hcell
def tabRow : RowI := ⟨some ⟨0, 0, none⟩, 64, 1, fun i => [.int .u8 false ((Lib.deBruijn64tab.getD i.toNat 0 : Nat) : Int)], fun i => [.int .u8 ((Lib.deBruijn64tab.getD i 0 : Nat) : Int)], []⟩
/-- The table at place 1. -/
def rowsT (R : Rws) : Rws := fun j => bif Nat.beq j 1 then some tabRow else R j
theorem rowsT_ok {R : Rws} (h : RwOK R) (hs : ∀ j r, R j = some r → r.sub = []) : RwOK (rowsT R) := by
  have key : ∀ j r, rowsT R j = some r → r = tabRow ∨ R j = some r := fun j r hj => by
    unfold rowsT at hj
    cases hb : Nat.beq j 1 <;> simp only [hb, cond_true, cond_false] at hj
    · exact .inr hj
    · exact .inl (Option.some.inj hj).symm
  refine ⟨fun j r hj i hi => ?_, fun j r hj i hi => ?_, fun j r hj i hi v hv => ?_, fun j r hj h0 => ?_, fun j r hj a j' ha => ?_⟩
  · rcases key j r hj with rfl | hj
    · simp [tabRow, AV.vals?, AV.val?]
    · exact h.vals j r hj i hi
  · rcases key j r hj with rfl | hj
    · rfl
    · exact h.len j r hj i hi
  · rcases key j r hj with rfl | hj
    · simp [tabRow] at hv; subst hv; rfl
    · exact h.one j r hj i hi v hv
  · rcases key j r hj with rfl | hj
    · exact ⟨0, 0, rfl⟩
    · exact h.addr j r hj h0
  · rcases key j r hj with rfl | hj
    · cases ha
    · rw [hs j r hj] at ha; cases ha
theorem rowsT_tab {R : Rws} {nb : List Nat} {w : World} (h : Rd (rowsT R) nb w) : TabTz 0 w := fun j hj => by
  have := (h 1 tabRow rfl 0 0 rfl (by decide)).2.2 j hj 0 _ rfl
  simpa [tabRow] using this
def tzN (v : BitVec 64) : Nat := Lib.ctz 64 v.toNat
/-- The contract. -/
def ctrTz : CtrF
  | [.bv .u64 v], _ => some (.int .i64 false ((tzN v : Nat) : Int), [])
  | _, _ => none
theorem ctrTz_ok {R : Rws} : Good Tryd.prog (rowsT R) 43 ctrTz := by
  refine ⟨enters_of Tryd.func43 (by kernel_rfl) rfl, fun args H v cs hF hc => ?_⟩
  unfold ctrTz at hF
  split at hF
  · rename_i x
    simp only [Option.some.injEq, Prod.mk.injEq] at hF
    obtain ⟨rfl, rfl⟩ := hF
    refine ⟨.int .i64 ((tzN x : Nat) : Int), rfl, fun Hr Args hA hB hAp w hO => ?_⟩
    cases hA with | cons h1 h2 =>
    cases h2
    cases h1
    refine (tz_any x.toNat x.isLt w (rowsT_tab hO.2)).mono fun e w' h => ?_
    obtain ⟨rfl, rfl⟩ := h
    exact ⟨rfl, Below.refl _ _⟩
  · cases hF
end

section
theorem nb_ne {a b : Nat} (h : a ≠ b) : Nat.beq a b = false := by
  cases hb : Nat.beq a b
  · rfl
  · exact absurd (Nat.eq_of_beq_eq_true hb) h
def ones (v : BitVec 64) : List Nat := (List.range 64).filter (fun i => v.getLsbD i)
def dn (v : BitVec 64) : BitVec 64 := v &&& (v - BitVec.ofInt 64 1)
theorem filter_first (p p' : Nat → Bool) (k : Nat) (h1 : ∀ i, i < k → p i = false) (h2 : p k = true) (h3 : ∀ i, p' i = (p i && !(Nat.beq i k))) : ∀ n, (List.range n).filter p = if k < n then k :: (List.range n).filter p' else (List.range n).filter p'
  | 0 => by simp
  | n + 1 => by
    rw [List.range_succ, List.filter_append, List.filter_append, filter_first p p' k h1 h2 h3 n]
    have e : ∀ (q : Nat → Bool), List.filter q [n] = if q n = true then [n] else [] := fun q => by cases h : q n <;> simp [h]
    rw [e, e, h3 n]
    rcases Nat.lt_trichotomy k n with h | h | h
    · have : Nat.beq n k = false := nb_ne (by omega) 
      simp [h, show k < n + 1 by omega, this]
    · subst h
      have hb : Nat.beq k k = true := Nat.beq_refl k
      have : (List.range k).filter p' = [] := by
        rw [List.filter_eq_nil_iff]; intro a ha; rw [h3, h1 a (by simpa using ha)]; simp
      simp [h2, hb, this]
    · have : Nat.beq n k = false := nb_ne (by omega)
      simp [show ¬ k < n by omega, show ¬ k < n + 1 by omega, h1 n h]
theorem dn_bits {v : BitVec 64} (hv : v ≠ 0#64) : (∀ i, i < tzN v → v.getLsbD i = false) ∧ v.getLsbD (tzN v) = true ∧ tzN v < 64 ∧ ∀ i, (dn v).getLsbD i = (v.getLsbD i && !(Nat.beq i (tzN v))) := by
  have h0 : v.toNat ≠ 0 := fun h => hv (BitVec.eq_of_toNat_eq (by simpa using h))
  have hlt := v.isLt
  have e : tzN v = Lib.ctzFrom 64 v.toNat := by unfold tzN Lib.ctz; rw [if_neg h0]
  obtain ⟨m, hm, hk⟩ := Lib.ctzFrom_spec 64 v.toNat (by omega) hlt
  rw [← e] at hm hk
  generalize tzN v = k at *
  have hp : 0 < 2 ^ k := Nat.two_pow_pos k
  have e1 : v.toNat = 2 ^ k * (2 * m + 1) + 0 := by omega
  have e2 : (v - BitVec.ofInt 64 1).toNat = 2 ^ k * (2 * m) + (2 ^ k - 1) := by
    have h1 : (v - BitVec.ofInt 64 1).toNat = v.toNat - 1 := by
      have : BitVec.ofInt 64 1 = 1#64 := by decide
      rw [this, BitVec.toNat_sub]
      simp
      omega
    have h2 : 2 ^ k * (2 * m + 1) = 2 ^ k * (2 * m) + 2 ^ k := by rw [Nat.mul_add, Nat.mul_one]
    rw [h1, hm, h2]; omega
  have b1 : ∀ i, v.getLsbD i = if i < k then false else (2 * m + 1).testBit (i - k) := fun i => by
    rw [BitVec.getLsbD, e1, Nat.testBit_two_pow_mul_add _ hp]; simp
  have b2 : ∀ i, (v - BitVec.ofInt 64 1).getLsbD i = if i < k then true else (2 * m).testBit (i - k) := fun i => by
    rw [BitVec.getLsbD, e2, Nat.testBit_two_pow_mul_add _ (by omega)]
    split
    · rename_i h; simp [Nat.testBit_two_pow_sub_one, h]
    · rfl
  refine ⟨fun i hi => by rw [b1, if_pos hi], by rw [b1]; simp, hk, fun i => ?_⟩
  unfold dn
  rw [BitVec.getLsbD_and, b2, b1]
  rcases Nat.lt_trichotomy i k with h | h | h
  · simp [h]
  · subst h
    have : Nat.beq i i = true := Nat.beq_refl i
    simp [this]
  · have : Nat.beq i k = false := nb_ne (by omega)
    obtain ⟨j, hj⟩ : ∃ j, i - k = j + 1 := ⟨i - k - 1, by omega⟩
    simp only [show ¬ i < k by omega, if_false, this, Bool.not_false, Bool.and_true, hj]
    rw [Nat.testBit_succ, Nat.testBit_succ, show (2 * m + 1) / 2 = m by omega, show 2 * m / 2 = m by omega, Bool.and_self]
theorem ones_dn {v : BitVec 64} (hv : v ≠ 0#64) : ones v = tzN v :: ones (dn v) := by
  obtain ⟨h1, h2, h3, h4⟩ := dn_bits hv
  have := filter_first (fun i => v.getLsbD i) (fun i => (dn v).getLsbD i) (tzN v) h1 h2 h4 64
  rw [if_pos h3] at this
  exact this
def dnK (v : BitVec 64) : Nat → BitVec 64
  | 0 => v
  | j + 1 => dn (dnK v j)
theorem ones_zero : ones 0#64 = [] := by decide
theorem ones_nil {v : BitVec 64} (h : ones v = []) : v = 0#64 := by
  by_cases hv : v = 0#64
  · exact hv
  · rw [ones_dn hv] at h; cases h
theorem dnK_ones (v : BitVec 64) : ∀ j, j ≤ (ones v).length → ones (dnK v j) = (ones v).drop j
  | 0, _ => rfl
  | j + 1, h => by
    have ih := dnK_ones v j (by omega)
    have hne : dnK v j ≠ 0#64 := fun e => by
      rw [e, ones_zero] at ih
      have := congrArg List.length ih
      rw [List.length_drop] at this; simp at this; omega
    rw [ones_dn hne] at ih
    have := congrArg List.tail ih
    rw [List.tail_cons, List.tail_drop] at this
    exact this
theorem dnK_ne (v : BitVec 64) {j : Nat} (h : j < (ones v).length) : dnK v j ≠ 0#64 := fun e => by
  have ih := dnK_ones v j (by omega)
  rw [e, ones_zero] at ih
  have := congrArg List.length ih
  rw [List.length_drop] at this; simp at this; omega
theorem dnK_at (v : BitVec 64) {j : Nat} (h : j < (ones v).length) : (ones v)[j]? = some (tzN (dnK v j)) := by
  have ih := dnK_ones v j (by omega)
  rw [ones_dn (dnK_ne v h)] at ih
  have := congrArg (fun l => l[0]?) ih
  simpa using this.symm
theorem dnK_end (v : BitVec 64) : dnK v (ones v).length = 0#64 := ones_nil (by rw [dnK_ones v _ (Nat.le_refl _)]; simp)
theorem tzN_lt {v : BitVec 64} (hv : v ≠ 0#64) : tzN v < 64 := (dn_bits hv).2.2.1
def onesAt (x : BitVec 256) (i : Nat) : List Nat := (ones (limb x i)).map (64 * i + ·)
def bitsTo (x : BitVec 256) (n : Nat) : List Nat := (List.range n).flatMap (onesAt x)
abbrev bitsL (x : BitVec 256) : List Nat := bitsTo x 4
def cb (x : BitVec 256) (i : Nat) : Nat := (bitsTo x i).length
theorem bitsTo_succ (x : BitVec 256) (i : Nat) : bitsTo x (i + 1) = bitsTo x i ++ onesAt x i := by
  unfold bitsTo; rw [List.range_succ, List.flatMap_append]; simp
theorem cb_succ (x : BitVec 256) (i : Nat) : cb x (i + 1) = cb x i + (ones (limb x i)).length := by
  unfold cb; rw [bitsTo_succ, List.length_append, onesAt, List.length_map]
theorem bitsTo_pre (x : BitVec 256) (i : Nat) : ∀ d, ∃ t, bitsTo x (i + d) = bitsTo x i ++ t
  | 0 => ⟨[], by simp⟩
  | d + 1 => by
    obtain ⟨t, ht⟩ := bitsTo_pre x i d
    exact ⟨t ++ onesAt x (i + d), by rw [← Nat.add_assoc, bitsTo_succ, ht, List.append_assoc]⟩
theorem bits_at (x : BitVec 256) {i j : Nat} (hi : i < 4) (hj : j < (ones (limb x i)).length) : (bitsL x)[cb x i + j]? = some (64 * i + tzN (dnK (limb x i) j)) := by
  obtain ⟨t, ht⟩ := bitsTo_pre x (i + 1) (4 - (i + 1))
  rw [show i + 1 + (4 - (i + 1)) = 4 by omega, bitsTo_succ x i, List.append_assoc] at ht
  show (bitsTo x 4)[_]? = _
  rw [ht, List.getElem?_append_right (by unfold cb; omega), show cb x i + j - (bitsTo x i).length = j by unfold cb; omega, List.getElem?_append_left (by unfold onesAt; simpa using hj)]
  unfold onesAt
  rw [List.getElem?_map, dnK_at _ hj]
  rfl
theorem cb_le (x : BitVec 256) {i : Nat} (hi : i ≤ 4) : cb x i ≤ (bitsL x).length := by
  obtain ⟨t, ht⟩ := bitsTo_pre x i (4 - i)
  rw [show i + (4 - i) = 4 by omega] at ht
  show _ ≤ (bitsTo x 4).length
  rw [ht, List.length_append]; unfold cb; omega
end

section
abbrev RT : Rws := rowsT noRows
noncomputable abbrev EU : Env := mkEnv RT [(43, ctrTz)]
theorem RT_ok : RwOK RT := rowsT_ok rwOK_no (fun j r h => by cases h)
theorem EU_ok : EnvOK EU := mkEnv_ok RT_ok (good_cons ctrTz_ok good_nil)
theorem RT_inv {j : Nat} {r : RowI} (h : RT j = some r) : r = tabRow := by
  have h : (bif Nat.beq j 1 then some tabRow else noRows j) = some r := h
  cases hb : Nat.beq j 1 <;> simp only [hb, cond_true, cond_false] at h
  · cases h
  · exact (Option.some.inj h).symm
theorem cell_lt {w : World} {a : Addr} {v : Value} (h : w.cell? a = some v) : a.block < w.heap.size := by
  unfold World.cell? at h
  by_cases hb : a.block < w.heap.size
  · exact hb
  · rw [Array.getElem?_eq_none (by omega)] at h
    simp at h
/-- The table lies there, whatever else. -/
theorem RT_rd {nb : List Nat} {w : World} (hT : TabTz 0 w) (hnb : 0 ∉ nb) : Rd RT nb w := fun j r hj b off hA h0 => by
  cases RT_inv hj
  simp only [tabRow, Option.some.injEq, Addr.mk.injEq] at hA
  obtain ⟨rfl, rfl, _⟩ := hA
  refine ⟨hnb, ?_, fun i hi q u hu => ?_⟩
  · have := hT 0 (by omega)
    exact cell_lt this
  · cases q with
    | zero => simp [tabRow] at hu; subst hu; simpa [tabRow] using hT i hi
    | succ q => simp [tabRow] at hu
noncomputable abbrev cE1 : Code := (Tryd.f41.body.getD .skip)
noncomputable abbrev nE1 : Nat := Tryd.f41.ntmps
abbrev T24 : TypeId := 24
theorem ea_0 (l : Nat) (x : BitVec 256) : ∀ r, Is (evT EU 60 (.code (sL cE1)) ⟨pat (inLive 0 [.func (.yield l) [], .ptr 0 0]) r 0 nE1, ⟨[AIt.cells (wC x) 24], [], wrZ [0]⟩⟩ (chE .normal [(1, .ptr 0 0), (2, .ptr 1 0)] nE1 [AIt.cells (wC x) 24, AIt.cells [.func (.yield l) []] 55] [])) := fun r => ev_eq [] (true, nE1, ([(1, .ptr 0 0), (2, .ptr 1 0)] : List (Nat × AV)).map (fun p => some p.2), ([AIt.cells (wC x) 24, AIt.cells [.func (.yield l) []] 55] : Mem), ([] : List Bool)) (by kernel_rfl) trivial
theorem ea_1 (l : Nat) (x : BitVec 256) : ∀ r, Is (evT EU 60 (.code (sL (scB (sR cE1)))) ⟨pat [(1, .ptr 0 0), (2, .ptr 1 0)] r 0 nE1, ⟨[AIt.cells (wC x) 24, AIt.cells [.func (.yield l) []] 55], [], wrZ [0]⟩⟩ (chE .normal [(1, .ptr 0 0), (2, .ptr 1 0)] nE1 [AIt.cells (wC x) 24, AIt.cells [.func (.yield l) []] 55] [])) := fun r => ev_eq [] (true, nE1, ([(1, .ptr 0 0), (2, .ptr 1 0)] : List (Nat × AV)).map (fun p => some p.2), ([AIt.cells (wC x) 24, AIt.cells [.func (.yield l) []] 55] : Mem), ([] : List Bool)) (by kernel_rfl) trivial
theorem ea_2 (l : Nat) (x : BitVec 256) : ∀ r, Is (evT EU 60 (.code (sL (sR (scB (sR cE1))))) ⟨pat [(1, .ptr 0 0), (2, .ptr 1 0)] r 0 nE1, ⟨[AIt.cells (wC x) 24, AIt.cells [.func (.yield l) []] 55], [], wrZ [0]⟩⟩ (chE .normal [(2, .ptr 1 0), (6, .func (.func 57) [.ptr 2 0])] nE1 [AIt.cells (wC x) 24, AIt.cells [.func (.yield l) []] 55, AIt.cells (wC x) 24] [])) := fun r => ev_eq [] (true, nE1, ([(2, .ptr 1 0), (6, .func (.func 57) [.ptr 2 0])] : List (Nat × AV)).map (fun p => some p.2), ([AIt.cells (wC x) 24, AIt.cells [.func (.yield l) []] 55, AIt.cells (wC x) 24] : Mem), ([] : List Bool)) (by kernel_rfl) trivial
noncomputable abbrev eaOps : List Oper := rgOps (sL (bkB (sL (sR (lpB (bkB (bkB (rfB (bkB (sR (sR (scB (sR cE1)))))))))))))
noncomputable abbrev eaPlan : Plan := planAt EU.gen EU.eff eaOps 6
theorem eaPlan_ok : eaPlan.ok eaOps = true := by kernel_rfl
theorem ea_as (l : Nat) (x : BitVec 256) (i : Nat) : ∀ r, Is (evT EU 60 (.code (rfA (bkB (sR (sR (scB (sR cE1))))))) ⟨setps (pat [(2, .ptr 1 0), (6, .func (.func 57) [.ptr 2 0])] r 0 nE1) (rfP (bkB (sR (sR (scB (sR cE1)))))).toList [.int .i64 true (i : Int), .bv .u64 (limb x i)], ⟨[AIt.cells (wC x) 24, AIt.cells [.func (.yield l) []] 55, AIt.cells (wC x) 24], [], wrZ [0, 2]⟩⟩ (chE .normal [(2, .ptr 1 0), (3, .int .i64 true (i : Int)), (4, .bv .u64 (limb x i))] nE1 [AIt.cells (wC x) 24, AIt.cells [.func (.yield l) []] 55, AIt.cells (wC x) 24] [])) := fun r => ev_eq [] (true, nE1, ([(2, .ptr 1 0), (3, .int .i64 true (i : Int)), (4, .bv .u64 (limb x i))] : List (Nat × AV)).map (fun p => some p.2), ([AIt.cells (wC x) 24, AIt.cells [.func (.yield l) []] 55, AIt.cells (wC x) 24] : Mem), ([] : List Bool)) (by kernel_rfl) trivial
theorem ea_b (l : Nat) (x : BitVec 256) (i : Nat) (v : BitVec 64) (h : AllE [(v != BitVec.ofInt 64 0, true)]) : ∀ r, Is (evT EU 60 (.code (sL (lpB (bkB (bkB (rfB (bkB (sR (sR (scB (sR cE1))))))))))) ⟨pat [(2, .ptr 1 0), (3, .int .i64 true (i : Int)), (4, .bv .u64 (v))] r 0 nE1, ⟨[AIt.cells (wC x) 24, AIt.cells [.func (.yield l) []] 55, AIt.cells (wC x) 24], [true], wrZ [0, 2]⟩⟩ (chE .normal [(2, .ptr 1 0), (3, .int .i64 true (i : Int)), (4, .bv .u64 (v))] nE1 [AIt.cells (wC x) 24, AIt.cells [.func (.yield l) []] 55, AIt.cells (wC x) 24] [])) := fun r => ev_eq [(v != BitVec.ofInt 64 0, true)] (true, nE1, ([(2, .ptr 1 0), (3, .int .i64 true (i : Int)), (4, .bv .u64 (v))] : List (Nat × AV)).map (fun p => some p.2), ([AIt.cells (wC x) 24, AIt.cells [.func (.yield l) []] 55, AIt.cells (wC x) 24] : Mem), ([] : List Bool)) (by kernel_rfl) h
theorem ea_e (l : Nat) (x : BitVec 256) (i : Nat) (v : BitVec 64) (h : AllE [(v != BitVec.ofInt 64 0, false)]) : ∀ r, Is (evT EU 60 (.code (sL (lpB (bkB (bkB (rfB (bkB (sR (sR (scB (sR cE1))))))))))) ⟨pat [(2, .ptr 1 0), (3, .int .i64 true (i : Int)), (4, .bv .u64 (v))] r 0 nE1, ⟨[AIt.cells (wC x) 24, AIt.cells [.func (.yield l) []] 55, AIt.cells (wC x) 24], [false], wrZ [0, 2]⟩⟩ (chE (.exit 2) [(2, .ptr 1 0), (3, .int .i64 true (i : Int)), (4, .bv .u64 (v))] nE1 [AIt.cells (wC x) 24, AIt.cells [.func (.yield l) []] 55, AIt.cells (wC x) 24] [])) := fun r => ev_eq [(v != BitVec.ofInt 64 0, false)] (true, nE1, ([(2, .ptr 1 0), (3, .int .i64 true (i : Int)), (4, .bv .u64 (v))] : List (Nat × AV)).map (fun p => some p.2), ([AIt.cells (wC x) 24, AIt.cells [.func (.yield l) []] 55, AIt.cells (wC x) 24] : Mem), ([] : List Bool)) (by kernel_rfl) h
theorem ea_h (l : Nat) (x : BitVec 256) (i : Nat) (v : BitVec 64) : ∀ r, Is (headP EU (callWith EU (evT EU 60)) ([AIt.cells (wC x) 24, AIt.cells [.func (.yield l) []] 55, AIt.cells (wC x) 24] : Mem).length (statOf EU ⟨pat [(2, .ptr 1 0), (3, .int .i64 true (i : Int)), (4, .bv .u64 (v))] r 0 nE1, ⟨[AIt.cells (wC x) 24, AIt.cells [.func (.yield l) []] 55, AIt.cells (wC x) 24], [], wrZ [0, 2]⟩⟩ eaOps eaPlan.n eaPlan.ord) eaOps eaPlan.ord ⟨pat [(2, .ptr 1 0), (3, .int .i64 true (i : Int)), (4, .bv .u64 (v))] r 0 nE1, ⟨[AIt.cells (wC x) 24, AIt.cells [.func (.yield l) []] 55, AIt.cells (wC x) 24], [], wrZ [0, 2]⟩⟩ (chK [(2, .ptr 1 0), (3, .int .i64 true (i : Int)), (4, .bv .u64 (v)), (15, .func (.yield l) []), (20, .int .i64 false (IntKind.wrap IntKind.i64 (IntKind.wrap IntKind.i64 (64 * (i : Int)) + ((tzN (v) : Nat) : Int))))] nE1 [AIt.cells (wC x) 24, AIt.cells [.func (.yield l) []] 55, AIt.cells (wC x) 24] [] .normal)) := fun r => ev_eq [] (chR [(2, .ptr 1 0), (3, .int .i64 true (i : Int)), (4, .bv .u64 (v)), (15, .func (.yield l) []), (20, .int .i64 false (IntKind.wrap IntKind.i64 (IntKind.wrap IntKind.i64 (64 * (i : Int)) + ((tzN (v) : Nat) : Int))))] nE1 [AIt.cells (wC x) 24, AIt.cells [.func (.yield l) []] 55, AIt.cells (wC x) 24] []) (by kernel_rfl) trivial
theorem ea_t (l : Nat) (x : BitVec 256) (i : Nat) (v : BitVec 64) : ∀ r, Is (listP EU (callWith EU (evT EU 60)) eaOps (((eaOps.drop eaPlan.n).tail).take 1) ⟨pat ((21, .bool true true) :: [(2, .ptr 1 0), (3, .int .i64 true (i : Int)), (4, .bv .u64 (v)), (15, .func (.yield l) []), (20, .int .i64 false (IntKind.wrap IntKind.i64 (IntKind.wrap IntKind.i64 (64 * (i : Int)) + ((tzN (v) : Nat) : Int))))]) r 0 nE1, ⟨[AIt.cells (wC x) 24, AIt.cells [.func (.yield l) []] 55, AIt.cells (wC x) 24], [], wrZ [0, 2]⟩⟩ (chK [(2, .ptr 1 0), (3, .int .i64 true (i : Int)), (4, .bv .u64 (v)), (22, .bool true false)] nE1 [AIt.cells (wC x) 24, AIt.cells [.func (.yield l) []] 55, AIt.cells (wC x) 24] [] .normal)) := fun r => ev_eq [] (chR [(2, .ptr 1 0), (3, .int .i64 true (i : Int)), (4, .bv .u64 (v)), (22, .bool true false)] nE1 [AIt.cells (wC x) 24, AIt.cells [.func (.yield l) []] 55, AIt.cells (wC x) 24] []) (by kernel_rfl) trivial
theorem ea_f  : ∀ r, Is (listP EU (callWith EU (evT EU 60)) eaOps (((eaOps.drop eaPlan.n).tail).take 1) ⟨pat [(21, .bool true false)] r 0 nE1, ⟨[], [], wrZ [0, 2]⟩⟩ (chK [(22, .bool true true)] nE1 [] [] .normal)) := fun r => ev_eq [] (chR [(22, .bool true true)] nE1 [] []) (by kernel_rfl) trivial
theorem ea_tc (l : Nat) (x : BitVec 256) (i : Nat) (v : BitVec 64) : ∀ r, Is (evT EU 60 (.code (sR (bkB (sL (sR (lpB (bkB (bkB (rfB (bkB (sR (sR (scB (sR cE1)))))))))))))) ⟨pat [(2, .ptr 1 0), (3, .int .i64 true (i : Int)), (4, .bv .u64 (v)), (22, .bool true false)] r 0 nE1, ⟨[AIt.cells (wC x) 24, AIt.cells [.func (.yield l) []] 55, AIt.cells (wC x) 24], [], wrZ [0, 2]⟩⟩ (chE .normal [(2, .ptr 1 0), (3, .int .i64 true (i : Int)), (4, .bv .u64 (v))] nE1 [AIt.cells (wC x) 24, AIt.cells [.func (.yield l) []] 55, AIt.cells (wC x) 24] [])) := fun r => ev_eq [] (true, nE1, ([(2, .ptr 1 0), (3, .int .i64 true (i : Int)), (4, .bv .u64 (v))] : List (Nat × AV)).map (fun p => some p.2), ([AIt.cells (wC x) 24, AIt.cells [.func (.yield l) []] 55, AIt.cells (wC x) 24] : Mem), ([] : List Bool)) (by kernel_rfl) trivial
theorem ea_fc : ∀ r, Is (evT (mkEnv noRows []) 60 (.code (sR (bkB (sL (sR (lpB (bkB (bkB (rfB (bkB (sR (sR (scB (sR cE1)))))))))))))) ⟨pat [(22, .bool true true)] r 0 nE1, ⟨[], [], wrZ [0, 2]⟩⟩ (chE (.exit 0) [] nE1 [] [])) := fun r => ev_eq [] (true, nE1, ([] : List (Nat × AV)).map (fun p => some p.2), ([] : Mem), ([] : List Bool)) (by kernel_rfl) trivial
theorem ea_n (l : Nat) (x : BitVec 256) (i : Nat) (v : BitVec 64) : ∀ r, Is (evT EU 60 (.code (sR (sR (lpB (bkB (bkB (rfB (bkB (sR (sR (scB (sR cE1)))))))))))) ⟨pat [(2, .ptr 1 0), (3, .int .i64 true (i : Int)), (4, .bv .u64 (v))] r 0 nE1, ⟨[AIt.cells (wC x) 24, AIt.cells [.func (.yield l) []] 55, AIt.cells (wC x) 24], [], wrZ [0, 2]⟩⟩ (chE .normal [(2, .ptr 1 0), (3, .int .i64 true (i : Int)), (4, .bv .u64 (dn v))] nE1 [AIt.cells (wC x) 24, AIt.cells [.func (.yield l) []] 55, AIt.cells (wC x) 24] [])) := fun r => ev_eq [] (true, nE1, ([(2, .ptr 1 0), (3, .int .i64 true (i : Int)), (4, .bv .u64 (dn v))] : List (Nat × AV)).map (fun p => some p.2), ([AIt.cells (wC x) 24, AIt.cells [.func (.yield l) []] 55, AIt.cells (wC x) 24] : Mem), ([] : List Bool)) (by kernel_rfl) trivial
theorem ea_nil : ((eaOps.drop eaPlan.n).tail).drop 1 = [] := by kernel_rfl
theorem wC_cells {R : Rws} {ρ : Nums} {x : BitVec 256} {vs : List Value} (h : RelL R ρ (wC x) vs) : vs = [.int .u64 (L x 0), .int .u64 (L x 1), .int .u64 (L x 2), .int .u64 (L x 3)] := by
  unfold wC at h
  cases h with | cons a0 h =>
  cases h with | cons a1 h =>
  cases h with | cons a2 h =>
  cases h with | cons a3 h =>
  cases h; cases a0; cases a1; cases a2; cases a3
  show [Value.int .u64 ((limb x 0 : BitVec 64).toNat : Int), Value.int .u64 ((limb x 1 : BitVec 64).toNat : Int), Value.int .u64 ((limb x 2 : BitVec 64).toNat : Int), Value.int .u64 ((limb x 3 : BitVec 64).toNat : Int)] = _
  rw [limb_L, limb_L, limb_L, limb_L]
set_option maxHeartbeats 8000000 in
theorem each1_seq (b : Nat) (x : BitVec 256) (w0 : World) (S : Nat → Prop) (hc : Blk w0 b (#[.int .u64 (L x 0), .int .u64 (L x 1), .int .u64 (L x 2), .int .u64 (L x 3)] : Array Value) 24) (hb : S b) (hb0 : b ≠ 0) (hT : TabTz 0 w0) (hS : S 0) :
    Seq Tryd.prog 41 #[.pointer (some ⟨b, 0, none⟩)] encN (bitsL x) S w0 := by
  intro l J Jx W hW hJ hJx hY h0
  have hcW := hW.blk hc hb
  have hTW : TabTz 0 W := fun j hj => hW.cell (hT j hj) hS
  have h0lt : 0 < W.heap.size := cell_lt (hTW 0 (by omega))
  have hblk : W.heap[b]? = some (.cells (#[.int .u64 (L x 0), .int .u64 (L x 1), .int .u64 (L x 2), .int .u64 (L x 3)] : Array Value) 24 (0, 0)) := hcW
  have hJ0 : ∀ k, AnyN W.heap.size (J k) := fun k _ V V' row h hg hr => hJ k V V' row h hg hr
  let S0 : Nat → Prop := fun k => S k ∧ k < W.heap.size
  have hS0 : ∀ k, S0 k → k < W.heap.size := fun k h => h.2
  have hRS : ∀ j r, EU.rows j = some r → 0 < r.n → ∀ b off, r.A = some ⟨b, off, none⟩ → S0 b := fun j r hj h0' b off hA => by
    cases RT_inv hj
    simp only [tabRow, Option.some.injEq, Addr.mk.injEq] at hA
    obtain ⟨rfl, _⟩ := hA
    exact ⟨hS, h0lt⟩
  refine it_enter (R := RT) (P := Tryd.prog) (fn := Tryd.f41) (c := cE1) Tryd.func41 (by kernel_rfl) (l := l) (caps := [.ptr 0 0]) (lb := [.pointer (some ⟨b, 0, none⟩)]) (show 1 + 1 ≤ nE1 by decide) (Hr := [⟨b, 0, .cells (#[.int .u64 (L x 0), .int .u64 (L x 1), .int .u64 (L x 2), .int .u64 (L x 3)] : Array Value) 24 (0, 0)⟩]) (H := [AIt.cells (wC x) 24]) (S0 := S0) (fz := [0]) (J := J 0)
    (.cons (Rel.ptr (q := ⟨b, 0, 4⟩) rfl) .nil) ⟨rfl, fun k it p h1 h2 => ?_⟩ (fun k m it jt p q hne h1 h2 => ?_) (fun k it p h1 h2 hp => ?_) (RT_rd hTW (by simp only [mem_bs]; rintro ⟨q, hq, _, he⟩; simp [nums] at hq; subst hq; exact hb0 he)) (fun k q hq hp => ?_) hS0 h0 fun a had hP hB => ?_
  · cases k with
    | zero => cases h1; cases h2; exact .cells (RelL.of_vals (vals_wC x)) rfl
    | succ k => simp at h1
  · cases k with
    | zero => cases m with
      | zero => exact absurd rfl hne
      | succ m => simp at h2
    | succ k => simp at h1
  · cases k with
    | zero => cases h2; exact ⟨hcW.lt, fun _ => hblk⟩
    | succ k => simp at h1
  · cases k with
    | zero => cases hq; exact ⟨⟨hb, hcW.lt⟩, rfl⟩
    | succ k => simp [nums] at hq
  refine wp_in (in_parts (by kernel_rfl) (it_code EU_ok (.inl rfl) (hJ0 0) 60 .normal (by kernel_rfl) (ea_0 l x) hP hB fun a1 Hr1 w1 hP1 hB1 => ?_))
  refine wpIn_wide.2 (wp_sc (by kernel_rfl) (wp_in (in_parts (by kernel_rfl) (it_code EU_ok (.inl rfl) (hJ0 0) 60 .normal (by kernel_rfl) (ea_1 l x) hP1 hB1 fun a2 Hr2 w2 hP2 hB2 => ?_))))
  refine in_parts (by kernel_rfl) (it_code EU_ok (.inl rfl) (hJ0 0) 60 .normal (by kernel_rfl) (ea_2 l x) hP2 hB2 fun a3 Hr3 w3 hP3 hB3 => ?_)
  refine in_bk (by kernel_rfl) (wpIn_wide.2 ?_)
  have hd3 : a3.defers = [] := by obtain ⟨_, vs, rfl, _⟩ := hP3; rfl
  have hBl3 : RelB RT (nums Hr3) [AIt.cells (wC x) 24, AIt.cells [.func (.yield l) []] 55, AIt.cells (wC x) 24] Hr3 := by obtain ⟨_, vs, _, _, h, _⟩ := hP3; exact h
  have hA3 : Apart [AIt.cells (wC x) 24, AIt.cells [.func (.yield l) []] 55, AIt.cells (wC x) 24] Hr3 := by obtain ⟨_, vs, _, _, _, h⟩ := hP3; exact h
  rw [rf_eq (c := (bkB (sR (sR (scB (sR cE1)))))) (by kernel_rfl)]
  have hle : ∀ i, i ≤ 4 → cb x i ≤ (bitsL x).length := fun i h => cb_le x h
  refine it_each EU_ok 60 (xs := List.range 4) (encs := encQ x) (live := [(2, .ptr 1 0), (6, .func (.func 57) [.ptr 2 0])]) (n := nE1) (H := [AIt.cells (wC x) 24, AIt.cells [.func (.yield l) []] 55, AIt.cells (wC x) 24]) (gf := 57) (caps := [.ptr 2 0]) (fun r => by kernel_rfl) (enters_of Tryd.func57 (by kernel_rfl) rfl) (by kernel_rfl) [0] [0, 2] [0, 2] ?hseq (fun _ i => [.int .i64 true (i : Int), .bv .u64 (limb x i)]) (fun k i _ => by simp only [encQ, ← limb_L]; rfl) (fun _ _ => rfl) (fun _ => [AIt.cells (wC x) 24, AIt.cells [.func (.yield l) []] 55, AIt.cells (wC x) 24]) rfl (fun _ => rfl) (fun i V => J (cb x i) V) (fun k V V' row h hg hr => hJ _ V V' row h hg hr) (fun V => ∃ j, j ≤ (bitsL x).length ∧ Jx j V) (fun _ V V' row ⟨j, hj, h⟩ hg hr => ⟨j, hj, hJx j V V' row h hg hr⟩) (.exit 0)
    (fun _ i => [(2, .ptr 1 0), (3, .int .i64 true (i : Int)), (4, .bv .u64 (limb x i))]) (fun _ _ => [AIt.cells (wC x) 24, AIt.cells [.func (.yield l) []] 55, AIt.cells (wC x) 24]) (fun _ h => h) (fun k i q h1 h2 => absurd h2 (by simpa using h1)) (fun k i r _ => ea_as l x i r) (fun _ _ => rfl) ?hbody hP3 hB3 (fun q h => by
      by_cases e : q = 0
      · subst e; rfl
      · simp [memN, Ne.symm e, Nat.beq_eq] at h ⊢; omega) (fun k hk => hk.2) hRS ?hdone ?hstop
  case hseq =>
    intro lb hlb
    cases hlb with | cons h1 h2 =>
    cases h2
    obtain ⟨q, hq, rfl⟩ := rel_ptr h1
    obtain ⟨p, hp, rfl⟩ := nums_at hq
    have hrel := hBl3.2 2 _ p rfl hp
    have hph := hBl3.cph (l := 2) rfl hp
    obtain ⟨q1, q2⟩ := hB3.own.1 2 _ p rfl hp hph
    have hblk3 : Blk w3 p.b (#[.int .u64 (L x 0), .int .u64 (L x 1), .int .u64 (L x 2), .int .u64 (L x 3)] : Array Value) 24 := by
      have hh := q2 rfl
      cases hrel with | cells hr he =>
      have := wC_cells hr
      subst this
      exact hh
    have hsf := sfz_of (fz := [0, 2]) hBl3 hA3 hB3.own.1 rfl (l := 2) rfl hp hph rfl
    refine parts1_seq _ x w3 _ hblk3 ⟨q1, .inr ⟨?_, hsf.2⟩⟩
    rcases hB3.lab 2 p.num (nums_get hp) hph with h | h
    · exact h.1
    · exact absurd h.2 (by decide)
  case hbody =>
    intro l' k i V a4 Hr4 hx hP4 hB4 hkw
    have hi : i = k ∧ k < 4 := by
      have h1 := (List.getElem?_eq_some_iff.1 hx).1
      rw [List.getElem?_range (by simpa using h1)] at hx
      exact ⟨(Option.some.inj hx).symm, by simpa using h1⟩
    obtain ⟨rfl, hk4⟩ := hi
    have hS0w : ∀ k, S0 k → k < w3.heap.size := fun k h => by have := hB3.keep.size; have := h.2; omega
    have hlen3 : Hr3.length = 3 := hBl3.1
    have hn0w : W.heap.size ≤ w3.heap.size := hB3.keep.size
    refine in_bk (by kernel_rfl) (in_bk (by kernel_rfl) (in_lp (by kernel_rfl) ?_))
    refine it_loop (ones (limb x i)).length (fun j a w => ∃ Hr, PatSt RT [] [(2, .ptr 1 0), (3, .int .i64 true (i : Int)), (4, .bv .u64 (dnK (limb x i) j))] nE1 ⟨[AIt.cells (wC x) 24, AIt.cells [.func (.yield l) []] 55, AIt.cells (wC x) 24], [], wrZ [0, 2]⟩ a Hr ∧ It RT (nums Hr3) W.heap.size S0 (Sin S0 W.heap.size [0, 2] Hr3 w3) w3.heap.size [0, 2] V (J (cb x i + j)) [AIt.cells (wC x) 24, AIt.cells [.func (.yield l) []] 55, AIt.cells (wC x) 24] Hr w) ⟨Hr4, hP4, hB4⟩ ?_ ?_
    · rintro j a5 w5 hj ⟨Hr5, hP5, hB5⟩
      have hne := dnK_ne _ hj
      have hat := bits_at x hk4 hj
      generalize hv : dnK (limb x i) j = v at hP5 hne hat
      have htz := tzN_lt hne
      refine in_parts (by kernel_rfl) (it_code EU_ok (.inr ⟨l', rfl⟩) (hJ0 _) 60 .normal (by kernel_rfl) (ea_b l x i v ?_) hP5 hB5 fun a6 Hr6 w6 hP6 hB6 => ?_)
      · exact allE_cons (by simpa using hne) allE_nil
      refine in_parts (by kernel_rfl) (in_bk (by kernel_rfl) (in_parts (by kernel_rfl) (in_dr (by kernel_rfl) fun rid => ?_)))
      refine it_dhead EU_ok (.inr ⟨l', rfl⟩) (hJ0 _) 60 eaPlan_ok (by kernel_rfl) (no_then (no_bk (no_then (no_then (no_bk (no_bk no_each)))))) (ea_h l x i v) hP6 hB6 fun a7 Hr7 w7 hP7 hB7 => ?_
      have hw : IntKind.wrap IntKind.i64 (IntKind.wrap IntKind.i64 (64 * (i : Int)) + ((tzN v : Nat) : Int)) = ((64 * i + tzN v : Nat) : Int) := by
        rw [IntWalk.i64_in (64 * (i : Int)) ⟨by omega, by omega⟩, IntWalk.i64_in _ ⟨by omega, by omega⟩]; omega
      refine it_yield (.inr ⟨l', rfl⟩) (ly := l) (d := 21) (avs := [.int .i64 false (IntKind.wrap IntKind.i64 (IntKind.wrap IntKind.i64 (64 * (i : Int)) + ((tzN v : Nat) : Int)))]) (fun r => by kernel_rfl) (show 21 < nE1 by decide) (by kernel_rfl) (args := #[.int .i64 ((64 * i + tzN v : Nat) : Int)]) (by rw [hw]; rfl) (fun k hk => hk.2.imp id (·.1)) hn0w hRS hP7 hB7 (yield_at (hY _ _ w7 hat hB7.j) (fun b h => h.1)) (fun a8 w8 hP8 hB8 => ?_) (fun a8 w8 hP8 hB8 => ?_)
      · refine it_ops EU_ok (.inr ⟨l', rfl⟩) (hJ0 _) 60 1 (by kernel_rfl) (ea_t l x i v) hP8 hB8 fun a9 Hr9 w9 hP9 hB9 => ?_
        rw [ea_nil]
        refine in_nil (it_code EU_ok (.inr ⟨l', rfl⟩) (hJ0 _) 60 .normal (by kernel_rfl) (ea_tc l x i v) hP9 hB9 fun a10 Hr10 w10 hP10 hB10 => ?_)
        refine it_code EU_ok (.inr ⟨l', rfl⟩) (hJ0 _) 60 .normal (by kernel_rfl) (ea_n l x i v) hP10 hB10 fun a11 Hr11 w11 hP11 hB11 => ?_
        exact ⟨Hr11, by rw [show dnK (limb x i) (j + 1) = dn v from congrArg dn hv]; exact hP11, hB11⟩
      · refine it_ops E0_ok (.inr ⟨l', rfl⟩) (J := Jx (cb x i + j + 1)) (fun _ V V' row h hg hr => hJx _ V V' row h hg hr) 60 1 (by kernel_rfl) ea_f hP8 hB8 fun a9 Hr9 w9 hP9 hB9 => ?_
        rw [ea_nil]
        refine in_nil (it_code E0_ok (.inr ⟨l', rfl⟩) (J := Jx (cb x i + j + 1)) (fun _ V V' row h hg hr => hJx _ V V' row h hg hr) 60 (.exit 0) (by kernel_rfl) ea_fc hP9 hB9 fun a10 Hr10 w10 hP10 hB10 => ?_)
        exact ⟨hB10.keep.mono fun k hk => .inr hk, rfl, cb x i + j + 1, by have := (List.getElem?_eq_some_iff.1 hat).1; omega, hB10.j⟩
    · rintro a5 w5 ⟨Hr5, hP5, hB5⟩
      rw [dnK_end] at hP5
      refine in_parts (by kernel_rfl) (it_code EU_ok (.inr ⟨l', rfl⟩) (hJ0 _) 60 (.exit 2) (by kernel_rfl) (ea_e l x i _ ?_) hP5 hB5 fun a6 Hr6 w6 hP6 hB6 => ?_)
      · exact allE_cons (by decide) allE_nil
      · rw [← cb_succ] at hB6
        exact it_end hP6 hB6 hkw hS0w (by rw [hlen3]; rfl) (by rw [hlen3]; rfl)
  case hdone =>
    intro V hj hD
    rw [hd3]
    exact end_mark1 hD (results_none rfl _ _ _) ⟨⟨_, rfl⟩, .inl (hJ _ _ _ _ hj (grownBy_putObj' _ _ _) (fun r e => by cases e; exact hB3.keep.size))⟩
  case hstop =>
    rintro V ⟨j, hj4, hj⟩ hD
    refine wp_exit ?_
    rw [hd3]
    exact end_mark1 hD (results_none rfl _ _ _) ⟨⟨_, rfl⟩, .inr ⟨j, hj4, hJx j _ _ _ hj (grownBy_putObj' _ _ _) (fun r e => by cases e; exact hB3.keep.size)⟩⟩
end

section
theorem tinfo_byte : (Tryd.prog.info? 5).map (fun i => (i.zero, i.size, i.bytes)) = some (some (.int .u8 0), 1, 1) := by kernel_rfl
theorem under_bytes : Tryd.prog.underlying 52 = some (.slice 5) := by kernel_rfl
def byteC (c : Int) : List Value := [.int .u8 c]
theorem news_at (w : World) (c : Array Value) (t : TypeId) : ∀ j u, c.toList[j]? = some u → (w.alloc (.cells c t)).cell? ((⟨w.heap.size, 0, none⟩ : Addr).add j) = some u := fun j u h => by
  rw [Addr.add_lit, Nat.zero_add, World.cell?_alloc_at _ _ _ _ rfl]; simpa using h
theorem bytesC_take {xs : List Int} {i : Nat} {x : Int} (h : xs[i]? = some x) : bytesC (xs.take (i + 1)) = bytesC (xs.take i) ++ [.int .u8 x] := by
  rw [List.take_add_one, h]; simp [bytesC]
set_option maxRecDepth 20000 in
set_option maxHeartbeats 1000000 in
theorem wordBytes_any (x : Nat → Nat) (w : World) (hx : ∀ q, x q < 2 ^ 64) :
    Calls Tryd.prog 38 #[.agg (limbs x)] w (Gives w (bytesC (wbs x)) 32) := by
  obtain ⟨i0, hi, hz0, hz1, hz2⟩ := info_parts tinfo_byte
  have HX := Lib.hid hx
  clear hx
  go_enter Tryd.func38, Tryd.ntmps38
  go_wp2_with (first | (at_make; refine wpList_make_own _ rfl _ _ 52 rfl (w.heap.size + 1) 5 i0 _ 1 under_bytes hi hz0 hz1 _ _ _ 32 rfl rfl (by omega) (by rw [hz2]; omega) (by simp only [maxLen]; omega) (by simp) ?_))
  intro w1 hownS hgrow
  have hb1 : Below (w.heap.size + 1) (w.alloc (.cells (limbs x) 24)) w1 := (Below.refl _ _).grown hgrow (by simp) (fun k hk => by cases hk)
  clear hgrow
  go_wp2_with fail
  go_loopw [3, 4] (fun v i wr => WbRel x w v i wr) (fun _ i _ => (intOf i + 1).toNat)
  case atStart => exact ⟨0, Nat.zero_le _, rfl, by simpa [bytesC] using hownS, hb1⟩
  case round =>
    obtain ⟨k, hk, rfl, hown, hb⟩ := hrel
    by_cases hlt : k < 32
    · obtain ⟨m, hm⟩ : ∃ m : Nat, m + k = 31 := ⟨31 - k, by omega⟩
      have hmi : (31 : Int) - (k : Int) = ((m : Nat) : Int) := by omega
      rw [hmi]
      have hc : wr.cell? ⟨w.heap.size, m / 8, none⟩ = some (.int .u64 (x (m / 8) : Nat)) := (hb.cell (p := ⟨w.heap.size, m / 8, none⟩) (by simp)).trans (newc _ _ _ _ (limbs_at x (by omega)))
      have hv : ((byteAt x m : Nat) : Int) = ((x (m / 8) : Nat) : Int) / 2 ^ (8 * (m % 8)) % 256 := by unfold byteAt; simp
      have hbt : (wbs x)[k]? = some (((x (m / 8) : Nat) : Int) / 2 ^ (8 * (m % 8)) % 256) := by
        rw [← hv]; simp [wbs, hlt, show 31 - k = m by omega]
      have HT := Lib.hid hbt
      have hsz := hb.size
      simp only [World.size_alloc] at hsz
      clear hv hbt
      go_wp2_with (first | (at_builtin; refine wpList_append_own _ rfl _ _ 52 rfl (w.heap.size + 1) 5 i0 _ 1 1 under_bytes hi hz0 hz1 hz2 rfl (by decide) _ _ _ rfl (hown.alloc _) ⟨wr.heap.size, 0, none⟩ 1 1 (byteC (((x (m / 8) : Nat) : Int) / 2 ^ (8 * (m % 8)) % 256)) rfl rfl (news_at _ _ _) (by simp [byteC, Value.oneCell']) (by simp only [maxLen]; omega) (by omega) (by first | omega | (simp; omega)) ?_))
      intro v3 w3 hown3 hg3 _
      have hb3 : Below (w.heap.size + 1) (w.alloc (.cells (limbs x) 24)) w3 := below_grown (hb.alloc (by first | omega | (simp; omega)) _) (hown.alloc _) hg3 (by first | omega | (simp; omega)) (Nat.le_refl _)
      have hown4 : w3.ownsRow (w.heap.size + 1) 5 1 v3 (k + 1) (bytesC ((wbs x).take (k + 1))) := by
        rw [bytesC_take HT.out]; exact hown3
      clear hown3 hg3 hc hsz hown hb
      go_wp2_with fail
      exact ⟨⟨k + 1, by omega, by go_num, hown4, hb3⟩, by first | (simp [intOf]; done) | (simp [intOf]; omega)⟩
    · obtain rfl : k = 32 := by omega
      rw [List.take_of_length_le (by simp [wbs])] at hown
      obtain ⟨A', c', rfl, hs, hc, hT⟩ := slice_of_owns hown
      have hbw : Below w.heap.size w wr := (World.below_alloc w _).trans (hb.mono (by omega))
      clear hown hb
      go_wp2_with fail
      go_ret
      exact ⟨_, _, rfl, hs, hc, hbw, hT.mono (by first | omega | (simp; done) | (simp; omega))⟩

theorem heap_new_at {w : World} {o : Obj} {n : Nat} (h : n = w.heap.size) : (w.alloc o).heap[n]? = some o := by subst h; exact heap_alloc_new _ _
/-- A word's byte. -/
def byteW (k a : BitVec 256) : BitVec 256 := if k.toNat < 32 then BitVec.ofNat 256 (dig a.toNat (31 - k.toNat)) else 0#256
theorem wbs_dig (a : BitVec 256) : wbs (lq a) = (List.range 32).map fun j => ((dig a.toNat (31 - j) : Nat) : Int) := by
  unfold wbs
  refine List.map_congr_left fun j _ => ?_
  rw [byteAt_lq]
theorem smI_32 {b : BitVec 256} (h : b.toNat < 32) : smI b 32#64 = (b.toNat : Int) := by unfold smI; rw [if_pos (by omega), show (32#64 : BitVec 64).toNat = 32 by decide]; omega
set_option maxRecDepth 20000 in
set_option maxHeartbeats 2000000 in
theorem byte_any (k a : BitVec 256) (w : World) : Calls Tryd.prog 15 #[W k, W a] w fun e w' => e = .returned (W (byteW k a)) ∧ Below w.heap.size w w' := by
  have HS := Lib.hid (fun V => show Calls Tryd.prog 37 #[W k, .int .u64 32] V fun e w' => e = .returned (.tuple #[.int .i64 (smI k 32#64), .bool (smB k 32#64)]) ∧ Below V.heap.size V w' from small_any k 32#64 (by decide) V)
  have HW := Lib.hid (fun V => show Calls Tryd.prog 38 #[W a] V (Gives V (bytesC (wbs (lq a))) 32) by rw [W_lq]; exact wordBytes_any (lq a) V (lq_lt a))
  by_cases hk : k.toNat < 32
  · have hd := dig_lt a.toNat (31 - k.toNat)
    have HO := Lib.hid (fun V => wordOfW (dig a.toNat (31 - k.toNat)) V (by omega))
    have hs1 := smI_32 hk
    have hs2 : smB k 32#64 = true := decide_eq_true hk
    rw [hs1, hs2] at HS
    go_enter Tryd.func15, Tryd.ntmps15
    go_wp2_with fail
    refine (HS.out _).mono ?_
    rintro e w1 ⟨rfl, hb1⟩
    have hbk : Below w.heap.size w w1 := Below.trans (by go_grown) (Below.mono hb1 (by first | omega | (simp; done) | (simp; omega)))
    have ca : ∀ j v, (#[.int .u64 (L a 0), .int .u64 (L a 1), .int .u64 (L a 2), .int .u64 (L a 3)] : Array Value)[j]? = some v → w1.cell? ⟨w.heap.size + 1, j, none⟩ = some v := fun j v hv => cell_later hb1 (by rw [World.cell?_alloc_past _ _ _ (by simp), World.cell?_alloc_at _ _ _ _ (by simp)]; exact hv)
    have ca0 := ca 0 _ rfl; have ca1 := ca 1 _ rfl; have ca2 := ca 2 _ rfl; have ca3 := ca 3 _ rfl
    have ct : Blk w1 (w.heap.size + 1 + 1) #[.int .u64 0, .int .u64 0, .int .u64 0, .int .u64 0] 24 := by
      unfold Blk; rw [hb1.block _ (by simp)]; exact heap_new_at (by simp)
    have hs1z := hb1.size
    simp only [World.size_alloc] at hs1z
    clear hb1 ca
    go_wp2_with fail
    refine (HW.out _).mono ?_
    rintro e w2 ⟨A, c, rfl, hs, hc, hb, _⟩
    obtain ⟨b, off, rfl, hbl, hcell⟩ := hs.cell (j := 0) (u := .int .u8 ((byteAt (lq a) 31 : Nat) : Int)) rfl
    have hr : w2.rangeAt b off (bytesC (wbs (lq a))) := hcell
    have hu : Tryd.prog.underlying 51 = some (.array 32 5) := by kernel_rfl
    have hi : (Tryd.prog.info? 51).map (·.size) = some (bytesC (wbs (lq a))).length := by rw [bytesC_len, wbs_len]; kernel_rfl
    have hat : ∀ W, (Instr.arrayAt 51 (.slice (some ⟨b, off, none⟩) 32 c)).run Tryd.prog W = .ok (.pointer (some ⟨b, off, none⟩)) W := fun W => run_arrayAt W 51 5 32 _ 32 c hu (Nat.le_refl _)
    have HR := Lib.hid hr
    have HU := Lib.hid hu
    have HI := Lib.hid hi
    clear hcell hr hu hi
    replace ct := ct.grow hb
    have hbk2 : Below w.heap.size w w2 := hbk.trans (hb.mono hbk.size)
    have hsz := hb.size
    clear hb hbk
    have hd1 : (bytesC (wbs (lq a)))[k.toNat]? = some (.int .u8 ((dig a.toNat (31 - k.toNat) : Nat) : Int)) := by
      rw [wbs_dig]; simp [bytesC, hk]
    have hcb : (w2.alloc (.cells (bytesC (wbs (lq a))).toArray 51)).cell? ⟨w2.heap.size, k.toNat, none⟩ = some (.int .u8 ((dig a.toNat (31 - k.toNat) : Nat) : Int)) := by
      rw [World.cell?_alloc_at _ _ _ _ rfl]; simpa using hd1
    go_wp2_with (first
      | (refine wpList_load_mid rfl 51 (.tmp 18) (by with_reducible rfl) _ _ rfl _ _ HR.out HU.out rfl HI.out ?_)
      | (refine wpList_store_row rfl 51 (.tmp 7) (.tmp 19) (by with_reducible rfl) w2.heap.size (bytesC (wbs (lq a))).toArray rfl rfl 51 _ (heap_alloc_new _ _) (by simpa using HI.out) (by simp [bytesC_len, wbs_len]) (by simp [bytesC, Value.oneCell']) ?_; rw [World.setRow_alloc_new]))
    refine (HO.out _).mono ?_
    rintro e w3 ⟨rfl, hb3⟩
    have O3 := own1 ((ct.grow (World.below_alloc _ _)).grow hb3)
    have c3 := O3.cell 0 rfl
    have f3 := O3.free 0 rfl
    have l3 := O3.lt 0 rfl
    have hsz2 := hbk2.size
    have hbk3 : Below w.heap.size w w3 := (hbk2.alloc hsz2 _).trans (hb3.mono (by simp; omega))
    have hsz3 := hbk3.size
    have hz3 := hb3.size
    simp only [World.size_alloc] at hz3
    have lt3 : w.heap.size + 1 + 1 < w3.heap.size := l3
    clear hb3 O3
    have eW : byteW k a = BitVec.ofNat 256 (dig a.toNat (31 - k.toNat)) := by unfold byteW; rw [if_pos hk]
    go_wp2_with fail
    refine bodyPost_ret (v := W (BitVec.ofNat 256 (dig a.toNat (31 - k.toNat)))) (by simp [results, Tryd.results15, go_sem, *]) rfl ?_
    exact ⟨by rw [eW], by go_grown⟩
  · have hs2 : smB k 32#64 = false := decide_eq_false hk
    rw [hs2] at HS
    have eW : byteW k a = 0#256 := by unfold byteW; rw [if_neg hk]
    go_enter Tryd.func15, Tryd.ntmps15
    go_wp2_with fail
    refine (HS.out _).mono ?_
    rintro e w1 ⟨rfl, hb1⟩
    have hbk : Below w.heap.size w w1 := Below.trans (by go_grown) (Below.mono hb1 (by first | omega | (simp; done) | (simp; omega)))
    have ct : Blk w1 (w.heap.size + 1 + 1) #[.int .u64 0, .int .u64 0, .int .u64 0, .int .u64 0] 24 := by
      unfold Blk; rw [hb1.block _ (by simp)]; exact heap_new_at (by simp)
    have O3 := own1 ct
    have c3 := O3.cell 0 rfl
    have f3 := O3.free 0 rfl
    have lt3 : w.heap.size + 1 + 1 < w1.heap.size := O3.lt 0 rfl
    clear hb1 O3
    go_wp2_with fail
    refine bodyPost_ret (v := W 0#256) (by rw [← W_zero4]; simp [results, Tryd.results15, go_sem, *]) rfl ?_
    exact ⟨by rw [eW], by go_grown⟩
theorem idx32 (g : Nat → Int) {q : Nat} (h : q < 32) (W : World) : (Instr.index 51 (.agg (arr32 g)) (.int .i64 (q : Nat))).run Tryd.prog W = .ok (.int .u8 (g q)) W := by
  rcases (by omega : q = 0 ∨ q = 1 ∨ q = 2 ∨ q = 3 ∨ q = 4 ∨ q = 5 ∨ q = 6 ∨ q = 7 ∨ q = 8 ∨ q = 9 ∨ q = 10 ∨ q = 11 ∨ q = 12 ∨ q = 13 ∨ q = 14 ∨ q = 15 ∨ q = 16 ∨ q = 17 ∨ q = 18 ∨ q = 19 ∨ q = 20 ∨ q = 21 ∨ q = 22 ∨ q = 23 ∨ q = 24 ∨ q = 25 ∨ q = 26 ∨ q = 27 ∨ q = 28 ∨ q = 29 ∨ q = 30 ∨ q = 31) with rfl | rfl | rfl | rfl | rfl | rfl | rfl | rfl | rfl | rfl | rfl | rfl | rfl | rfl | rfl | rfl | rfl | rfl | rfl | rfl | rfl | rfl | rfl | rfl | rfl | rfl | rfl | rfl | rfl | rfl | rfl | rfl <;> kernel_rfl
theorem arr32_get (a : BitVec 256) {k : Nat} (hk : k < 32) : (arr32 fun j => ((dig a.toNat (31 - j) : Nat) : Int))[k]? = some (.int .u8 ((dig a.toNat (31 - k) : Nat) : Int)) := arr32_at _ hk
set_option maxRecDepth 20000 in
set_option maxHeartbeats 2000000 in
theorem refByte_any (k a : BitVec 256) (w : World) : Calls Tryd.prog 16 #[W k, W a] w fun e w' => e = .returned (W (byteW k a)) ∧ Below w.heap.size w w' := by
  have HS := Lib.hid (fun V => by_any k V)
  have HW := Lib.hid (fun V => refBytesW a V)
  by_cases hk : k.toNat < 32
  · have hd := dig_lt a.toNat (31 - k.toNat)
    have HO := Lib.hid (fun V => refOfW (dig a.toNat (31 - k.toNat)) (by omega) V)
    have hs1 : byI k = ((k.toNat : Nat) : Int) := by unfold byI; rw [if_pos (by omega)]
    rw [hs1] at HS
    have hg := fun W => idx32 (fun j => ((dig a.toNat (31 - j) : Nat) : Int)) hk W
    go_enter Tryd.func16, Tryd.ntmps16
    go_wp2_with fail
    refine (HS.out _).mono ?_
    rintro e w1 ⟨rfl, hb1⟩
    have hbk : Below w.heap.size w w1 := Below.trans (by go_grown) (Below.mono hb1 (by first | omega | (simp; done) | (simp; omega)))
    have ca : ∀ j v, (#[.int .u64 (L a 0), .int .u64 (L a 1), .int .u64 (L a 2), .int .u64 (L a 3)] : Array Value)[j]? = some v → w1.cell? ⟨w.heap.size + 1, j, none⟩ = some v := fun j v hv => cell_later hb1 (by rw [World.cell?_alloc_past _ _ _ (by simp), World.cell?_alloc_at _ _ _ _ (by simp)]; exact hv)
    have ca0 := ca 0 _ rfl; have ca1 := ca 1 _ rfl; have ca2 := ca 2 _ rfl; have ca3 := ca 3 _ rfl
    have ct : Blk w1 (w.heap.size + 1 + 1) #[.int .u64 0, .int .u64 0, .int .u64 0, .int .u64 0] 24 := by
      unfold Blk; rw [hb1.block _ (by simp)]; exact heap_new_at (by simp)
    have hs1z := hb1.size
    simp only [World.size_alloc] at hs1z
    clear hb1 ca
    go_wp2_with fail
    refine (HW.out _).mono ?_
    rintro e w2 ⟨rfl, hb⟩
    replace ct := ct.grow hb
    have hbk2 : Below w.heap.size w w2 := hbk.trans (hb.mono hbk.size)
    have hsz := hb.size
    clear hb hbk
    generalize hA : (arr32 fun j => ((dig a.toNat (31 - j) : Nat) : Int)) = AR at *
    go_wp2_with fail
    refine (HO.out _).mono ?_
    rintro e w3 ⟨rfl, hb3⟩
    have O3 := own1 (ct.grow hb3)
    have c3 := O3.cell 0 rfl
    have f3 := O3.free 0 rfl
    have hbk3 : Below w.heap.size w w3 := hbk2.trans (hb3.mono hbk2.size)
    have lt3 : w.heap.size + 1 + 1 < w3.heap.size := O3.lt 0 rfl
    clear hb3 O3
    have eW : byteW k a = BitVec.ofNat 256 (dig a.toNat (31 - k.toNat)) := by unfold byteW; rw [if_pos hk]
    go_wp2_with fail
    refine bodyPost_ret (v := W (BitVec.ofNat 256 (dig a.toNat (31 - k.toNat)))) (by simp [results, Tryd.results16, go_sem, *]) rfl ?_
    exact ⟨by rw [eW], by go_grown⟩
  · have hs2 : (32 : Int) ≤ byI k := by unfold byI; split <;> omega
    have eW : byteW k a = 0#256 := by unfold byteW; rw [if_neg hk]
    generalize byI k = b at *
    go_enter Tryd.func16, Tryd.ntmps16
    go_wp2_with fail
    refine (HS.out _).mono ?_
    rintro e w1 ⟨rfl, hb1⟩
    have hbk : Below w.heap.size w w1 := Below.trans (by go_grown) (Below.mono hb1 (by first | omega | (simp; done) | (simp; omega)))
    have ct : Blk w1 (w.heap.size + 1 + 1) #[.int .u64 0, .int .u64 0, .int .u64 0, .int .u64 0] 24 := by
      unfold Blk; rw [hb1.block _ (by simp)]; exact heap_new_at (by simp)
    have O3 := own1 ct
    have c3 := O3.cell 0 rfl
    have f3 := O3.free 0 rfl
    have lt3 : w.heap.size + 1 + 1 < w1.heap.size := O3.lt 0 rfl
    clear hb1 O3
    go_wp2_with fail
    refine bodyPost_ret (v := W 0#256) (by rw [← W_zero4]; simp [results, Tryd.results16, go_sem, *]) rfl ?_
    exact ⟨by rw [eW], by go_grown⟩
end

section
noncomputable def tabX : List (Nat × CtrF) := [(44, ctrT asN (fun (x : BitVec 64) => .int .i64 false (lenN x.toNat)))] ++ tabE
theorem tabX_ok {R : Rws} : ∀ p ∈ tabX, Good Tryd.prog R p.1 p.2 := by
  have h0 : Good Tryd.prog R 44 ( ctrT asN (fun (x : BitVec 64) => .int .i64 false (lenN x.toNat))) := ctrT_ok (enc := (fun x : BitVec 64 => Value.int .u64 (x.toNat : Int))) (V := fun (x : BitVec 64) => .int .i64 (lenN x.toNat)) (fun h => asN_rel h) (enters_of Tryd.func44 (by kernel_rfl) rfl) (fun _ => rfl) (fun x w => len64_any x w)
  exact good_cons (p := (_, _)) h0 (tabE_ok)
theorem EX_ok {R : Rws} (hR : RwOK R) : EnvOK (mkEnv R tabX) := mkEnv_ok hR tabX_ok
end

section
theorem len64_le (x : BitVec 64) : lenN x.toNat ≤ 64 := by
  unfold lenN
  split
  · omega
  · rename_i h
    have := (Nat.log2_lt h).2 x.isLt
    omega
def dwnW (n a : BitVec 256) (s : Bool) : BitVec 256 := if n.toNat < 256 then downW a n.toNat s else if s then BitVec.allOnes 256 else 0#256
noncomputable def len_r0 (a : BitVec 256) : AV := AV.int IntKind.i64 false (IntKind.wrap IntKind.i64 (IntKind.wrap IntKind.i64 (64 * 3) + (↑(lenN (BitVec.toNat (limb a 3))) : Int)))
theorem len_0 (a : BitVec 256) (h : AllE [(limb a 3 != BitVec.ofInt 64 0, true)]) : Is (evCall (mkEnv noRows tabX) 60 21 [wA a] ⟨[], [true], allW⟩ (fun v _ => v = len_r0 a)) := ev_eq [(limb a 3 != BitVec.ofInt 64 0, true)] (len_r0 a) (by kernel_rfl) h
noncomputable def len_r1 (a : BitVec 256) : AV := AV.int IntKind.i64 false (IntKind.wrap IntKind.i64 (IntKind.wrap IntKind.i64 (64 * IntKind.wrap IntKind.i64 (3 - 1)) + (↑(lenN (BitVec.toNat (limb a 2))) : Int)))
theorem len_1 (a : BitVec 256) (h : AllE [(limb a 3 != BitVec.ofInt 64 0, false), (limb a 2 != BitVec.ofInt 64 0, true)]) : Is (evCall (mkEnv noRows tabX) 60 21 [wA a] ⟨[], [false, true], allW⟩ (fun v _ => v = len_r1 a)) := ev_eq [(limb a 3 != BitVec.ofInt 64 0, false), (limb a 2 != BitVec.ofInt 64 0, true)] (len_r1 a) (by kernel_rfl) h
noncomputable def len_r2 (a : BitVec 256) : AV := AV.int IntKind.i64 false (IntKind.wrap IntKind.i64 (IntKind.wrap IntKind.i64 (64 * IntKind.wrap IntKind.i64 (IntKind.wrap IntKind.i64 (3 - 1) - 1)) + (↑(lenN (BitVec.toNat (limb a 1))) : Int)))
theorem len_2 (a : BitVec 256) (h : AllE [(limb a 3 != BitVec.ofInt 64 0, false), (limb a 2 != BitVec.ofInt 64 0, false), (limb a 1 != BitVec.ofInt 64 0, true)]) : Is (evCall (mkEnv noRows tabX) 60 21 [wA a] ⟨[], [false, false, true], allW⟩ (fun v _ => v = len_r2 a)) := ev_eq [(limb a 3 != BitVec.ofInt 64 0, false), (limb a 2 != BitVec.ofInt 64 0, false), (limb a 1 != BitVec.ofInt 64 0, true)] (len_r2 a) (by kernel_rfl) h
noncomputable def len_r3 (a : BitVec 256) : AV := AV.int IntKind.i64 false (IntKind.wrap IntKind.i64 (IntKind.wrap IntKind.i64 (64 * IntKind.wrap IntKind.i64 (IntKind.wrap IntKind.i64 (IntKind.wrap IntKind.i64 (3 - 1) - 1) - 1)) + (↑(lenN (BitVec.toNat (limb a 0))) : Int)))
theorem len_3 (a : BitVec 256) (h : AllE [(limb a 3 != BitVec.ofInt 64 0, false), (limb a 2 != BitVec.ofInt 64 0, false), (limb a 1 != BitVec.ofInt 64 0, false), (limb a 0 != BitVec.ofInt 64 0, true)]) : Is (evCall (mkEnv noRows tabX) 60 21 [wA a] ⟨[], [false, false, false, true], allW⟩ (fun v _ => v = len_r3 a)) := ev_eq [(limb a 3 != BitVec.ofInt 64 0, false), (limb a 2 != BitVec.ofInt 64 0, false), (limb a 1 != BitVec.ofInt 64 0, false), (limb a 0 != BitVec.ofInt 64 0, true)] (len_r3 a) (by kernel_rfl) h
noncomputable def len_r4 (a : BitVec 256) : AV := AV.int IntKind.i64 true 0
theorem len_4 (a : BitVec 256) (h : AllE [(limb a 3 != BitVec.ofInt 64 0, false), (limb a 2 != BitVec.ofInt 64 0, false), (limb a 1 != BitVec.ofInt 64 0, false), (limb a 0 != BitVec.ofInt 64 0, false)]) : Is (evCall (mkEnv noRows tabX) 60 21 [wA a] ⟨[], [false, false, false, false], allW⟩ (fun v _ => v = len_r4 a)) := ev_eq [(limb a 3 != BitVec.ofInt 64 0, false), (limb a 2 != BitVec.ofInt 64 0, false), (limb a 1 != BitVec.ofInt 64 0, false), (limb a 0 != BitVec.ofInt 64 0, false)] (len_r4 a) (by kernel_rfl) h
set_option maxHeartbeats 4000000 in
theorem len_any (a : BitVec 256)  (w : World) : Calls Tryd.prog 21 #[W a] w fun e w' => e = .returned (.int .i64 (lenN a.toNat)) ∧ Below w.heap.size w w' := by
  rcases h0 : (limb a 3 != BitVec.ofInt 64 0) with _ | _
  · rcases h1 : (limb a 2 != BitVec.ofInt 64 0) with _ | _
    · rcases h2 : (limb a 1 != BitVec.ofInt 64 0) with _ | _
      · rcases h3 : (limb a 0 != BitVec.ofInt 64 0) with _ | _
        · have hn := limb_nat a
          have gl0 := (limb a 0).isLt
          have gl1 := (limb a 1).isLt
          have gl2 := (limb a 2).isLt
          have gl3 := (limb a 3).isLt
          have g0 : ¬ (limb a 3).toNat ≠ 0 := by have hq := h0; rw [ne0_test] at hq; simpa using hq
          have g1 : ¬ (limb a 2).toNat ≠ 0 := by have hq := h1; rw [ne0_test] at hq; simpa using hq
          have g2 : ¬ (limb a 1).toNat ≠ 0 := by have hq := h2; rw [ne0_test] at hq; simpa using hq
          have g3 : ¬ (limb a 0).toNat ≠ 0 := by have hq := h3; rw [ne0_test] at hq; simpa using hq
          have hV : (len_r4 a).told? = some (.int .i64 (lenN a.toNat)) := congrArg some (by show Value.int .i64 0 = .int .i64 (lenN a.toNat); rw [show a.toNat = 0 by omega]; rfl)
          exact ev_callsI (EX_ok rwOK_no) 60 (len_4 a (allE_cons h0 (allE_cons h1 (allE_cons h2 (allE_cons h3 allE_nil))))) hV (.cons (rel_wA _ a) .nil) rfl w
        · have hn := limb_nat a
          have gl0 := (limb a 0).isLt
          have gl1 := (limb a 1).isLt
          have gl2 := (limb a 2).isLt
          have gl3 := (limb a 3).isLt
          have g0 : ¬ (limb a 3).toNat ≠ 0 := by have hq := h0; rw [ne0_test] at hq; simpa using hq
          have g1 : ¬ (limb a 2).toNat ≠ 0 := by have hq := h1; rw [ne0_test] at hq; simpa using hq
          have g2 : ¬ (limb a 1).toNat ≠ 0 := by have hq := h2; rw [ne0_test] at hq; simpa using hq
          have g3 : (limb a 0).toNat ≠ 0 := by have hq := h3; rw [ne0_test] at hq; simpa using hq
          have gd : a.toNat / 2 ^ 0 = (limb a 0).toNat := by omega
          have gg : lenN a.toNat = 0 + lenN (limb a 0).toNat := by rw [show a.toNat = (limb a 0).toNat by omega]; simp
          have gb : lenN (limb a 0).toNat ≤ 64 := len64_le _
          have hV : (len_r3 a).told? = some (.int .i64 (lenN a.toNat)) := congrArg some (by show Value.int .i64 (IntKind.wrap IntKind.i64 (IntKind.wrap IntKind.i64 (64 * 0) + (lenN (limb a 0).toNat : Int))) = .int .i64 (lenN a.toNat); rw [gg, show IntKind.wrap IntKind.i64 (64 * 0) = 0 by decide, IntWalk.i64_in _ ⟨by omega, by omega⟩]; congr 1)
          exact ev_callsI (EX_ok rwOK_no) 60 (len_3 a (allE_cons h0 (allE_cons h1 (allE_cons h2 (allE_cons h3 allE_nil))))) hV (.cons (rel_wA _ a) .nil) rfl w
      · have hn := limb_nat a
        have gl0 := (limb a 0).isLt
        have gl1 := (limb a 1).isLt
        have gl2 := (limb a 2).isLt
        have gl3 := (limb a 3).isLt
        have g0 : ¬ (limb a 3).toNat ≠ 0 := by have hq := h0; rw [ne0_test] at hq; simpa using hq
        have g1 : ¬ (limb a 2).toNat ≠ 0 := by have hq := h1; rw [ne0_test] at hq; simpa using hq
        have g2 : (limb a 1).toNat ≠ 0 := by have hq := h2; rw [ne0_test] at hq; simpa using hq
        have gd : a.toNat / 2 ^ 64 = (limb a 1).toNat := by omega
        have gg : lenN a.toNat = 64 + lenN (limb a 1).toNat := by rw [lenN_div (n := a.toNat) (k := 64) (by omega), gd]
        have gb : lenN (limb a 1).toNat ≤ 64 := len64_le _
        have hV : (len_r2 a).told? = some (.int .i64 (lenN a.toNat)) := congrArg some (by show Value.int .i64 (IntKind.wrap IntKind.i64 (IntKind.wrap IntKind.i64 (64 * 1) + (lenN (limb a 1).toNat : Int))) = .int .i64 (lenN a.toNat); rw [gg, show IntKind.wrap IntKind.i64 (64 * 1) = 64 by decide, IntWalk.i64_in _ ⟨by omega, by omega⟩]; congr 1)
        exact ev_callsI (EX_ok rwOK_no) 60 (len_2 a (allE_cons h0 (allE_cons h1 (allE_cons h2 allE_nil)))) hV (.cons (rel_wA _ a) .nil) rfl w
    · have hn := limb_nat a
      have gl0 := (limb a 0).isLt
      have gl1 := (limb a 1).isLt
      have gl2 := (limb a 2).isLt
      have gl3 := (limb a 3).isLt
      have g0 : ¬ (limb a 3).toNat ≠ 0 := by have hq := h0; rw [ne0_test] at hq; simpa using hq
      have g1 : (limb a 2).toNat ≠ 0 := by have hq := h1; rw [ne0_test] at hq; simpa using hq
      have gd : a.toNat / 2 ^ 128 = (limb a 2).toNat := by omega
      have gg : lenN a.toNat = 128 + lenN (limb a 2).toNat := by rw [lenN_div (n := a.toNat) (k := 128) (by omega), gd]
      have gb : lenN (limb a 2).toNat ≤ 64 := len64_le _
      have hV : (len_r1 a).told? = some (.int .i64 (lenN a.toNat)) := congrArg some (by show Value.int .i64 (IntKind.wrap IntKind.i64 (IntKind.wrap IntKind.i64 (64 * 2) + (lenN (limb a 2).toNat : Int))) = .int .i64 (lenN a.toNat); rw [gg, show IntKind.wrap IntKind.i64 (64 * 2) = 128 by decide, IntWalk.i64_in _ ⟨by omega, by omega⟩]; congr 1)
      exact ev_callsI (EX_ok rwOK_no) 60 (len_1 a (allE_cons h0 (allE_cons h1 allE_nil))) hV (.cons (rel_wA _ a) .nil) rfl w
  · have hn := limb_nat a
    have gl0 := (limb a 0).isLt
    have gl1 := (limb a 1).isLt
    have gl2 := (limb a 2).isLt
    have gl3 := (limb a 3).isLt
    have g0 : (limb a 3).toNat ≠ 0 := by have hq := h0; rw [ne0_test] at hq; simpa using hq
    have gd : a.toNat / 2 ^ 192 = (limb a 3).toNat := by omega
    have gg : lenN a.toNat = 192 + lenN (limb a 3).toNat := by rw [lenN_div (n := a.toNat) (k := 192) (by omega), gd]
    have gb : lenN (limb a 3).toNat ≤ 64 := len64_le _
    have hV : (len_r0 a).told? = some (.int .i64 (lenN a.toNat)) := congrArg some (by show Value.int .i64 (IntKind.wrap IntKind.i64 (IntKind.wrap IntKind.i64 (64 * 3) + (lenN (limb a 3).toNat : Int))) = .int .i64 (lenN a.toNat); rw [gg, show IntKind.wrap IntKind.i64 (64 * 3) = 192 by decide, IntWalk.i64_in _ ⟨by omega, by omega⟩]; congr 1)
    exact ev_callsI (EX_ok rwOK_no) 60 (len_0 a (allE_cons h0 allE_nil)) hV (.cons (rel_wA _ a) .nil) rfl w
noncomputable def tabZ : List (Nat × CtrF) := [(17, ctrTT asW asW (fun (x : BitVec 256) (y : BitVec 256) => wA (extW x y))),
  (26, ctrT asW (fun (x : BitVec 256) => wA (~~~ x))),
  (15, ctrTT asW asW (fun (x : BitVec 256) (y : BitVec 256) => wA (byteW x y))),
  (21, ctrT asW (fun (x : BitVec 256) => .int .i64 false ((lenN x.toNat : Int)))),
  (9, ctrTT asW asW (fun (x : BitVec 256) (y : BitVec 256) => wA (shlW x y))),
  (11, ctrTTT asW asW asB (fun (x : BitVec 256) (y : BitVec 256) (z : Bool) => wA (dwnW x y z))),
  (18, ctrTT asW asW (fun (x : BitVec 256) (y : BitVec 256) => wA (extW x y))),
  (16, ctrTT asW asW (fun (x : BitVec 256) (y : BitVec 256) => wA (byteW x y))),
  (27, ctrT asW (fun (x : BitVec 256) => wA (~~~ x))),
  (52, ctrTT asW asW (fun (x : BitVec 256) (y : BitVec 256) => wA (x - y))),
  (30, ctrTT asW asW (fun (x : BitVec 256) (y : BitVec 256) => wA (x * y))),
  (29, ctrTT asW asW (fun (x : BitVec 256) (y : BitVec 256) => .tuple [wA (divW x y), wA (modW x y)]))] ++ tabE
theorem tabZ_ok {R : Rws} : ∀ p ∈ tabZ, Good Tryd.prog R p.1 p.2 := by
  have h0 : Good Tryd.prog R 17 ( ctrTT asW asW (fun (x : BitVec 256) (y : BitVec 256) => wA (extW x y))) := ctrTT_ok (ea := W) (eb := W) (V := fun (x : BitVec 256) (y : BitVec 256) => W (extW x y)) (fun h => asW_rel h) (fun h => asW_rel h) (enters_of Tryd.func17 (by kernel_rfl) rfl) (fun _ _ => told_wA _) (fun x y w => ext_any x y w)
  have h1 : Good Tryd.prog R 26 ( ctrT asW (fun (x : BitVec 256) => wA (~~~ x))) := ctrT_ok (enc := W) (V := fun (x : BitVec 256) => W (~~~ x)) (fun h => asW_rel h) (enters_of Tryd.func26 (by kernel_rfl) rfl) (fun _ => told_wA _) (fun x w => not_any x w)
  have h2 : Good Tryd.prog R 15 ( ctrTT asW asW (fun (x : BitVec 256) (y : BitVec 256) => wA (byteW x y))) := ctrTT_ok (ea := W) (eb := W) (V := fun (x : BitVec 256) (y : BitVec 256) => W (byteW x y)) (fun h => asW_rel h) (fun h => asW_rel h) (enters_of Tryd.func15 (by kernel_rfl) rfl) (fun _ _ => told_wA _) (fun x y w => byte_any x y w)
  have h3 : Good Tryd.prog R 21 ( ctrT asW (fun (x : BitVec 256) => .int .i64 false ((lenN x.toNat : Int)))) := ctrT_ok (enc := W) (V := fun (x : BitVec 256) => .int .i64 ((lenN x.toNat : Int))) (fun h => asW_rel h) (enters_of Tryd.func21 (by kernel_rfl) rfl) (fun _ => rfl) (fun x w => len_any x w)
  have h4 : Good Tryd.prog R 9 ( ctrTT asW asW (fun (x : BitVec 256) (y : BitVec 256) => wA (shlW x y))) := ctrTT_ok (ea := W) (eb := W) (V := fun (x : BitVec 256) (y : BitVec 256) => W (shlW x y)) (fun h => asW_rel h) (fun h => asW_rel h) (enters_of Tryd.func9 (by kernel_rfl) rfl) (fun _ _ => told_wA _) (fun x y w => refShl_any x y w)
  have h5 : Good Tryd.prog R 11 ( ctrTTT asW asW asB (fun (x : BitVec 256) (y : BitVec 256) (z : Bool) => wA (dwnW x y z))) := ctrTTT_ok (ea := W) (eb := W) (ec := Value.bool) (V := fun (x : BitVec 256) (y : BitVec 256) (z : Bool) => W (dwnW x y z)) (fun h => asW_rel h) (fun h => asW_rel h) (fun h => asB_rel h) (enters_of Tryd.func11 (by kernel_rfl) rfl) (fun _ _ _ => told_wA _) (fun x y z w => refDown_any x y z w)
  have h6 : Good Tryd.prog R 18 ( ctrTT asW asW (fun (x : BitVec 256) (y : BitVec 256) => wA (extW x y))) := ctrTT_ok (ea := W) (eb := W) (V := fun (x : BitVec 256) (y : BitVec 256) => W (extW x y)) (fun h => asW_rel h) (fun h => asW_rel h) (enters_of Tryd.func18 (by kernel_rfl) rfl) (fun _ _ => told_wA _) (fun x y w => refExtW x y w)
  have h7 : Good Tryd.prog R 16 ( ctrTT asW asW (fun (x : BitVec 256) (y : BitVec 256) => wA (byteW x y))) := ctrTT_ok (ea := W) (eb := W) (V := fun (x : BitVec 256) (y : BitVec 256) => W (byteW x y)) (fun h => asW_rel h) (fun h => asW_rel h) (enters_of Tryd.func16 (by kernel_rfl) rfl) (fun _ _ => told_wA _) (fun x y w => refByte_any x y w)
  have h8 : Good Tryd.prog R 27 ( ctrT asW (fun (x : BitVec 256) => wA (~~~ x))) := ctrT_ok (enc := W) (V := fun (x : BitVec 256) => W (~~~ x)) (fun h => asW_rel h) (enters_of Tryd.func27 (by kernel_rfl) rfl) (fun _ => told_wA _) (fun x w => refNotW x w)
  have h9 : Good Tryd.prog R 52 ( ctrTT asW asW (fun (x : BitVec 256) (y : BitVec 256) => wA (x - y))) := ctrTT_ok (ea := W) (eb := W) (V := fun (x : BitVec 256) (y : BitVec 256) => W (x - y)) (fun h => asW_rel h) (fun h => asW_rel h) (enters_of Tryd.func52 (by kernel_rfl) rfl) (fun _ _ => told_wA _) (fun x y w => refSubW x y w)
  have h10 : Good Tryd.prog R 30 ( ctrTT asW asW (fun (x : BitVec 256) (y : BitVec 256) => wA (x * y))) := ctrTT_ok (ea := W) (eb := W) (V := fun (x : BitVec 256) (y : BitVec 256) => W (x * y)) (fun h => asW_rel h) (fun h => asW_rel h) (enters_of Tryd.func30 (by kernel_rfl) rfl) (fun _ _ => told_wA _) (fun x y w => refMulW x y w)
  have h11 : Good Tryd.prog R 29 ( ctrTT asW asW (fun (x : BitVec 256) (y : BitVec 256) => .tuple [wA (divW x y), wA (modW x y)])) := ctrTT_ok (ea := W) (eb := W) (V := fun (x : BitVec 256) (y : BitVec 256) => .tuple #[W (divW x y), W (modW x y)]) (fun h => asW_rel h) (fun h => asW_rel h) (enters_of Tryd.func29 (by kernel_rfl) rfl) (fun _ _ => told_WW _ _) (fun x y w => refDivideW x y w)
  exact good_cons (p := (_, _)) h0 (good_cons (p := (_, _)) h1 (good_cons (p := (_, _)) h2 (good_cons (p := (_, _)) h3 (good_cons (p := (_, _)) h4 (good_cons (p := (_, _)) h5 (good_cons (p := (_, _)) h6 (good_cons (p := (_, _)) h7 (good_cons (p := (_, _)) h8 (good_cons (p := (_, _)) h9 (good_cons (p := (_, _)) h10 (good_cons (p := (_, _)) h11 (tabE_ok))))))))))))
end

section

end

section
theorem RT_free {nb : List Nat} {w : World} (h : Rd RT nb w) : 0 < w.heap.size ∧ 0 ∉ nb := by
  obtain ⟨h1, h2, _⟩ := h 1 tabRow rfl 0 0 rfl (by decide)
  exact ⟨h2, h1⟩
theorem RT_pos : ∀ j r, RT j = some r → 0 < r.n → 0 < (r.V 0).length := fun j r h _ => by cases RT_inv h; exact Nat.one_pos
noncomputable abbrev EZ : Env := mkEnv RT tabZ
theorem EZ_ok : EnvOK EZ := mkEnv_ok RT_ok tabZ_ok
noncomputable abbrev cW3 : Code := (Tryd.f14.body.getD .skip)
noncomputable abbrev nW3 : Nat := Tryd.f14.ntmps
def nK : Nat → Int
  | 0 => 0
  | 1 => 1
  | _ => 13
def hW3 (k : Nat) : Mem := [AIt.cells [.int .i64 true (nK k)] 3, AIt.cells (wC 10#256) 24]
theorem bits_10 : bitsL 10#256 = [1, 3] := by decide +kernel
theorem w3_pre : ∀ r, Is (evCs EZ 60 (takeSeq 4 cW3) ⟨pat (inLive 0 []) r 0 nW3, ⟨[], [], allW⟩⟩ (chK [(1, .ptr 0 0), (2, .func (.func 41) [.ptr 1 0])] nW3 (hW3 0) [])) := fun r => ev_eq [] (chR [(1, .ptr 0 0), (2, .func (.func 41) [.ptr 1 0])] nW3 (hW3 0) []) (by kernel_rfl) trivial
def w3XA (k : Nat) (x : Nat) : List AV := [.int .i64 true (x : Int)]
noncomputable abbrev c34 : Code := dropSeq 4 cW3
noncomputable abbrev cRg3 : Code := dropSeq 1 (sL c34)
theorem w3_r6 : ∀ r, Is (evCs EZ 60 (takeSeq 1 (sL c34)) ⟨pat [(1, .ptr 0 0), (2, .func (.func 41) [.ptr 1 0])] r 0 nW3, ⟨hW3 0, [], allW⟩⟩ (chK [(1, .ptr 0 0), (8, .func (.func 41) [.ptr 1 0])] nW3 (hW3 0) [])) := fun r => ev_eq [] (chR [(1, .ptr 0 0), (8, .func (.func 41) [.ptr 1 0])] nW3 (hW3 0) []) (by kernel_rfl) trivial
theorem w3_round (k : Nat) (x : Nat) (r : Nat → Value) (hx : [1, 3][k]? = some x) :
    Is (evR EZ 60 2 (rgA cRg3) (rgB cRg3) ⟨setps (pat [(1, .ptr 0 0), (8, .func (.func 41) [.ptr 1 0])] r 0 nW3) (rgP cRg3).toList (w3XA k x), ⟨hW3 k, [], fun l => allW l && !memN l [1]⟩⟩ (rndK false (rgI cRg3) 2 (hW3 (k + 1)))) := by
  have hk : k < 2 := (List.getElem?_eq_some_iff.1 hx).1
  rcases (by omega : k = 0 ∨ k = 1) with rfl | rfl <;> (simp at hx; subst hx)
  · exact ev_eq [] (rndR false (hW3 1)) (by kernel_rfl) trivial
  · exact ev_eq [] (rndR false (hW3 2)) (by kernel_rfl) trivial
def w3C : List (Bool × Bool) := List.replicate 11 (true, true)
theorem w3C_ok : AllE w3C := allE_cons rfl (allE_cons rfl (allE_cons rfl (allE_cons rfl (allE_cons rfl (allE_cons rfl (allE_cons rfl (allE_cons rfl (allE_cons rfl (allE_cons rfl (allE_cons rfl (allE_nil)))))))))))
theorem w3_rest : ∀ rs, Is (evT EZ 60 (.code (sR c34)) ⟨pat [(1, .ptr 0 0), (8, .func (.func 41) [.ptr 1 0])] rs 0 nW3, ⟨hW3 2, [true, true, true, true, true, true, true, true, true, true, true], allW⟩⟩ (retK EZ Tryd.f14 (.bool true true))) := fun rs =>
  ev_eq w3C (some [AV.bool true true]) (by kernel_rfl) w3C_ok
set_option maxHeartbeats 4000000 in
theorem works3_any (w : World) (hT : TabTz 0 w) : Calls Tryd.prog 14 #[] w fun e w' => e = .returned (.bool true) ∧ Below w.heap.size w w' := by
  refine ev_enter (E := EZ) (fn := Tryd.f14) (c := cW3) Tryd.func14 (by kernel_rfl) (args := []) (Args := []) (Nat.zero_le _) .nil (RT_rd hT (by simp)) (ds := []) (wr := allW) fun a hP hB => ?_
  refine ev_seqs EZ_ok 60 4 w3_pre hP hB fun a1 Hr1 w1 hP1 hB1 _ => ?_
  refine wp_parts (by kernel_rfl) ?_
  refine ev_seqs EZ_ok 60 1 w3_r6 hP1 hB1 fun a2 Hr2 w2 hP2 hB2 _ => ?_
  refine ev_rangeAt EZ_ok 60 (m := ⟨hW3 0, [], allW⟩) (live := [(1, .ptr 0 0), (8, .func (.func 41) [.ptr 1 0])]) (n := nW3) (caps := [.ptr 1 0]) (xs := [1, 3]) (encs := encN) (by kernel_rfl) (fun _ => by kernel_rfl) (enters_of Tryd.func41 (by kernel_rfl) rfl) (by kernel_rfl) [1] ?_ w3XA (fun _ _ _ => rfl) (fun _ _ => rfl) hW3 rfl (fun _ => rfl) (fun _ => []) (fun _ => false) (fun k x r hx _ => w3_round k x r hx) hP2 hB2 fun k a3 Hr3 w3 hE hP3 hB3 _ => ?_
  · intro lb hlb
    obtain ⟨rs, vs, _, _, hBl, hnd⟩ := hP2
    obtain ⟨q1, n1, hb1⟩ := blk_of hBl hB2.own.1 (l := 1) rfl (vals_wC 10#256)
    cases hlb with | cons h1 h2 =>
    cases h2
    obtain ⟨q2, m1, rfl⟩ := rel_ptr h1
    obtain rfl := Option.some.inj (n1.symm.trans m1)
    obtain ⟨hz, h0⟩ := RT_free hB2.own.2
    obtain ⟨p1, hp1, rfl⟩ := nums_at n1
    have hph := hBl.cph (l := 1) rfl hp1
    have h := each1_seq _ 10#256 w2 (Sfz [1] Hr2 w2) hb1 (sfz_of hBl hnd hB2.own.1 rfl (l := 1) rfl hp1 hph rfl) (fun e => ?_) (rowsT_tab hB2.own.2) ⟨hz, fun l q hq hp hb => ?_⟩
    · rw [bits_10] at h; exact h
    · exact h0 (mem_bs.2 ⟨_, List.mem_of_getElem? n1, hph, e⟩)
    · exact absurd (mem_bs.2 ⟨q, List.mem_of_getElem? hq, hp, hb⟩) h0
  · obtain rfl : k = 2 := by
      rcases hE with ⟨h, _⟩ | ⟨_, _, h, _⟩
      · exact h
      · cases h
    exact ev_rest EZ_ok 60 w3_rest rfl RT_pos hP3 hB3
end

section
theorem works3_good : Good Tryd.prog RT 14 (ctr0 (.bool true true)) := by
  refine ⟨enters_of Tryd.func14 (by kernel_rfl) rfl, fun args H v cs hF hc => ?_⟩
  unfold ctr0 at hF
  split at hF
  · simp only [Option.some.injEq, Prod.mk.injEq] at hF
    obtain ⟨rfl, rfl⟩ := hF
    refine ⟨.bool true, rfl, fun Hr Args hA hB hAp w hO => ?_⟩
    cases hA
    exact works3_any w (rowsT_tab hO.2)
  · cases hF
noncomputable def tabL3 : List (Nat × CtrF) := (14, ctr0 (.bool true true)) :: tabZ
noncomputable abbrev EL3 : Env := mkEnv RT tabL3
theorem EL3_ok : EnvOK EL3 := mkEnv_ok RT_ok (good_cons (p := (_, _)) works3_good tabZ_ok)
end

section
theorem W_of (a0 a1 a2 a3 : Int) (h0 : (Lit.int .u64 a0).wf = true) (h1 : (Lit.int .u64 a1).wf = true) (h2 : (Lit.int .u64 a2).wf = true) (h3 : (Lit.int .u64 a3).wf = true) : ∃ x : BitVec 256, Value.agg #[.int .u64 a0, .int .u64 a1, .int .u64 a2, .int .u64 a3] = W x := by
  have b0 := bounds_u64 h0
  have b1 := bounds_u64 h1
  have b2 := bounds_u64 h2
  have b3 := bounds_u64 h3
  refine ⟨mkW (BitVec.ofInt 64 a0) (BitVec.ofInt 64 a1) (BitVec.ofInt 64 a2) (BitVec.ofInt 64 a3), ?_⟩
  rw [W_mkW]
  simp only [BitVec.toNat_ofInt]
  congr <;> omega
theorem limbs_same {x y : BitVec 256} (h : x = y) : (false != (limb x 0 == limb y 0 && (limb x 1 == limb y 1 && (limb x 2 == limb y 2 && (limb x 3 == limb y 3 && true))))) = true := by subst h; simp
theorem dwnW_shr (b a : BitVec 256) : shrW b a = dwnW b a false := by unfold shrW dwnW; split <;> rfl
theorem dwnW_sar (b a : BitVec 256) : sarW b a = dwnW b a (a.getLsbD 255) := rfl
theorem shifts_ev (b a : BitVec 256) : Is (evCall EL3 60 3 [wA b, wA a] ⟨[], [true, true, true], allW⟩ (fun v _ => v = .bool true true)) := ev_eq [(false != (limb (shlW (re b) (re a)) 0 == limb (shlW (re b) (re a)) 0 && (limb (shlW (re b) (re a)) 1 == limb (shlW (re b) (re a)) 1 && (limb (shlW (re b) (re a)) 2 == limb (shlW (re b) (re a)) 2 && (limb (shlW (re b) (re a)) 3 == limb (shlW (re b) (re a)) 3 && true)))), true), (false != (limb (shrW (re b) (re a)) 0 == limb (dwnW (re b) (re a) false) 0 && (limb (shrW (re b) (re a)) 1 == limb (dwnW (re b) (re a) false) 1 && (limb (shrW (re b) (re a)) 2 == limb (dwnW (re b) (re a) false) 2 && (limb (shrW (re b) (re a)) 3 == limb (dwnW (re b) (re a) false) 3 && true)))), true), (false != (limb (sarW (re b) (re a)) 0 == limb (dwnW (re b) (re a) (BitVec.getLsbD (re a) 255)) 0 && (limb (sarW (re b) (re a)) 1 == limb (dwnW (re b) (re a) (BitVec.getLsbD (re a) 255)) 1 && (limb (sarW (re b) (re a)) 2 == limb (dwnW (re b) (re a) (BitVec.getLsbD (re a) 255)) 2 && (limb (sarW (re b) (re a)) 3 == limb (dwnW (re b) (re a) (BitVec.getLsbD (re a) 255)) 3 && true)))), true)] (.bool true true : AV) (by kernel_rfl) (allE_cons (limbs_same rfl) (allE_cons (limbs_same (dwnW_shr _ _)) (allE_cons (limbs_same (dwnW_sar _ _)) (allE_nil))))
theorem shifts_any (b a : BitVec 256) (w : World) (hT : TabTz 0 w) : Calls Tryd.prog 3 #[W b, W a] w fun e w' => e = .returned (.bool true) ∧ Below w.heap.size w w' := ev_callsR EL3_ok 60 (shifts_ev b a) rfl (.cons (rel_wA _ b) (.cons (rel_wA _ a) .nil)) w (RT_rd hT (by simp [nums, bs]))
theorem bytes_ev (b a : BitVec 256) : Is (evCall EL3 60 4 [wA b, wA a] ⟨[], [true, true], allW⟩ (fun v _ => v = .bool true true)) := ev_eq [(false != (limb (byteW (re b) (re a)) 0 == limb (byteW (re b) (re a)) 0 && (limb (byteW (re b) (re a)) 1 == limb (byteW (re b) (re a)) 1 && (limb (byteW (re b) (re a)) 2 == limb (byteW (re b) (re a)) 2 && (limb (byteW (re b) (re a)) 3 == limb (byteW (re b) (re a)) 3 && true)))), true), (false != (limb (extW (re b) (re a)) 0 == limb (extW (re b) (re a)) 0 && (limb (extW (re b) (re a)) 1 == limb (extW (re b) (re a)) 1 && (limb (extW (re b) (re a)) 2 == limb (extW (re b) (re a)) 2 && (limb (extW (re b) (re a)) 3 == limb (extW (re b) (re a)) 3 && true)))), true)] (.bool true true : AV) (by kernel_rfl) (allE_cons (limbs_same rfl) (allE_cons (limbs_same rfl) (allE_nil)))
theorem bytes_any (b a : BitVec 256) (w : World) (hT : TabTz 0 w) : Calls Tryd.prog 4 #[W b, W a] w fun e w' => e = .returned (.bool true) ∧ Below w.heap.size w w' := ev_callsR EL3_ok 60 (bytes_ev b a) rfl (.cons (rel_wA _ b) (.cons (rel_wA _ a) .nil)) w (RT_rd hT (by simp [nums, bs]))
end

section
theorem mk_limb (x : BitVec 256) : mkW (limb x 0) (limb x 1) (limb x 2) (limb x 3) = x := re_eq x
theorem shl_shl {p q r a : BitVec 256} (hp : p.toNat < 256) (hq : q.toNat < 256) (hr : r.toNat = p.toNat + q.toNat) : shlW q (shlW p a) = shlW r a := by
  unfold shlW
  rw [if_pos hp, if_pos hq, hr]
  apply BitVec.eq_of_getLsbD_eq
  intro i hi
  split
  · rw [BitVec.shiftLeft_add]
  · rw [BitVec.getLsbD_shiftLeft, BitVec.getLsbD_shiftLeft, BitVec.getLsbD_zero]
    by_cases h : i < q.toNat
    · simp [h]
    · simp [show i - q.toNat < p.toNat by omega]
theorem shrB_bit (p a : BitVec 256) (i : Nat) : (shrW p a).getLsbD i = a.getLsbD (p.toNat + i) := by
  unfold shrW
  split
  · simp [downW, BitVec.getLsbD_ushiftRight]
  · rw [BitVec.getLsbD_zero, BitVec.getLsbD_of_ge _ _ (by omega)]
theorem shr_shr {p q r a : BitVec 256} (hr : r.toNat = p.toNat + q.toNat) : shrW q (shrW p a) = shrW r a := by
  apply BitVec.eq_of_getLsbD_eq
  intro i hi
  rw [shrB_bit, shrB_bit, shrB_bit, hr, Nat.add_assoc]
theorem sarB_bit (p a : BitVec 256) (i : Nat) (hi : i < 256) : (sarW p a).getLsbD i = if p.toNat + i < 256 then a.getLsbD (p.toNat + i) else a.getLsbD 255 := by
  unfold sarW downW
  generalize a.getLsbD 255 = s
  split
  · cases s
    · rw [if_neg (by decide), BitVec.getLsbD_ushiftRight]
      split
      · rfl
      · rw [BitVec.getLsbD_of_ge _ _ (by omega)]
    · rw [if_pos rfl, BitVec.getLsbD_not, BitVec.getLsbD_ushiftRight, decide_eq_true hi]
      split
      · rename_i h; rw [BitVec.getLsbD_not, decide_eq_true h]; simp
      · rw [BitVec.getLsbD_of_ge _ _ (by omega)]; rfl
  · rename_i hp
    rw [if_neg (show ¬ p.toNat + i < 256 by omega)]
    cases s
    · simp
    · rw [if_pos rfl, BitVec.getLsbD_allOnes, decide_eq_true hi]
theorem sar_sar {p q r a : BitVec 256} (hr : r.toNat = p.toNat + q.toNat) : sarW q (sarW p a) = sarW r a := by
  apply BitVec.eq_of_getLsbD_eq
  intro i hi
  have e : (sarW p a).getLsbD 255 = a.getLsbD 255 := by
    rw [sarB_bit p a 255 (by omega)]
    split
    · rw [show p.toNat + 255 = 255 by omega]
    · rfl
  rw [sarB_bit q _ i hi, sarB_bit r a i hi, hr, e]
  by_cases h : q.toNat + i < 256
  · rw [if_pos h, sarB_bit p a _ h, ← Nat.add_assoc]
  · rw [if_neg h, if_neg (by omega)]
theorem shl_mul {p a : BitVec 256} (hp : p.toNat < 256) : shlW p a = a * shlW p 1#256 := by
  unfold shlW
  rw [if_pos hp, if_pos hp]
  apply BitVec.eq_of_toNat_eq
  rw [BitVec.toNat_shiftLeft, BitVec.toNat_mul, BitVec.toNat_shiftLeft, Nat.shiftLeft_eq, Nat.shiftLeft_eq, show (1#256).toNat = 1 by decide, Nat.one_mul, Nat.mod_eq_of_lt (Nat.pow_lt_pow_right (by omega) hp)]
theorem shr_div {p a : BitVec 256} (hp : p.toNat < 256) : shrW p a = divW a (shlW p 1#256) := by
  have h : (1#256 <<< p.toNat).toNat = 2 ^ p.toNat := by
    rw [BitVec.toNat_shiftLeft, Nat.shiftLeft_eq, show (1#256).toNat = 1 by decide, Nat.one_mul, Nat.mod_eq_of_lt (Nat.pow_lt_pow_right (by omega) hp)]
  unfold shlW divW shrW downW
  rw [if_pos hp, if_pos hp, if_neg (by decide), if_neg (fun e => by
    rw [e] at h
    have := Nat.two_pow_pos p.toNat
    simp at h
    omega)]
  apply BitVec.eq_of_toNat_eq
  rw [BitVec.toNat_udiv, h, BitVec.toNat_ushiftRight, Nat.shiftRight_eq_div_pow]
theorem extB_bit (o a : BitVec 256) (ho : o.toNat < 31) (i : Nat) (hi : i < 256) : (extW o a).getLsbD i = a.getLsbD (min i (8 * o.toNat + 7)) := by
  have hk : (BitVec.ofNat 256 (248 - 8 * o.toNat)).toNat = 248 - 8 * o.toNat := by rw [BitVec.toNat_ofNat]; exact Nat.mod_eq_of_lt (by omega)
  have hs : ∀ j, j < 256 → (shlW (BitVec.ofNat 256 (248 - 8 * o.toNat)) a).getLsbD j = (!decide (j < 248 - 8 * o.toNat) && a.getLsbD (j - (248 - 8 * o.toNat))) := fun j hj => by
    unfold shlW
    rw [hk, if_pos (by omega), BitVec.getLsbD_shiftLeft, decide_eq_true hj, Bool.true_and]
  unfold extW
  rw [if_pos ho, sarB_bit _ _ _ hi, hk]
  split
  · rw [hs _ (by omega), decide_eq_false (by omega)]
    simp only [Bool.not_false, Bool.true_and]
    congr 1; omega
  · rw [hs _ (by omega), decide_eq_false (by omega)]
    simp only [Bool.not_false, Bool.true_and]
    congr 1; omega
theorem ext_ext (o a : BitVec 256) : extW o (extW o a) = extW o a := by
  by_cases ho : o.toNat < 31
  · apply BitVec.eq_of_getLsbD_eq
    intro i hi
    rw [extB_bit _ _ ho _ hi, extB_bit _ _ ho _ (by omega), extB_bit _ _ ho _ hi]
    congr 1; omega
  · unfold extW; rw [if_neg ho, if_neg ho]
theorem not_and {x y : BitVec 64} : ~~~(~~~(BitVec.ofInt 64 0) &&& x &&& y) = (BitVec.ofInt 64 0 ||| ~~~x ||| ~~~y) := by
  apply BitVec.eq_of_getLsbD_eq
  intro i hi
  have h0 : (BitVec.ofInt 64 0).getLsbD i = false := by rw [show (BitVec.ofInt 64 0) = 0#64 by decide]; simp
  rw [BitVec.getLsbD_not, BitVec.getLsbD_and, BitVec.getLsbD_and, BitVec.getLsbD_not, BitVec.getLsbD_or, BitVec.getLsbD_or, BitVec.getLsbD_not, BitVec.getLsbD_not, h0, decide_eq_true hi]
  cases x.getLsbD i <;> cases y.getLsbD i <;> rfl
theorem xor_xor' {x y : BitVec 64} : (BitVec.ofInt 64 0 ^^^ (BitVec.ofInt 64 0 ^^^ x ^^^ y) ^^^ y) = x := by
  rw [show (BitVec.ofInt 64 0) = 0#64 by decide, BitVec.zero_xor, BitVec.zero_xor, BitVec.xor_assoc, BitVec.xor_self, BitVec.xor_zero]
theorem limbs4 {a0 a1 a2 a3 b0 b1 b2 b3 : BitVec 64} (h0 : a0 = b0) (h1 : a1 = b1) (h2 : a2 = b2) (h3 : a3 = b3) : (false != (a0 == b0 && (a1 == b1 && (a2 == b2 && (a3 == b3 && true))))) = true := by subst h0; subst h1; subst h2; subst h3; simp
def OX (x : BitVec 8) : BitVec 256 := BitVec.ofNat 256 (BitVec.toNat (BitVec.setWidth 64 x))
def OXY (x y : BitVec 8) : BitVec 256 := BitVec.ofNat 256 (BitVec.toNat ((BitVec.setWidth 64 x + BitVec.setWidth 64 y)))
def OZ (z : BitVec 8) : BitVec 256 := BitVec.ofNat 256 (BitVec.toNat (BitVec.setWidth 64 (z % BitVec.ofInt 8 40)))
def OE : BitVec 256 := BitVec.ofNat 256 (BitVec.toNat (BitVec.ofInt 64 1))
theorem OX_nat (x : BitVec 8) : (OX x).toNat = x.toNat := by
  have := x.isLt
  unfold OX; rw [BitVec.toNat_ofNat, BitVec.toNat_setWidth]; omega
theorem OXY_nat (x y : BitVec 8) : (OXY x y).toNat = (OX x).toNat + (OX y).toNat := by
  have := x.isLt; have := y.isLt
  rw [OX_nat, OX_nat]
  unfold OXY; rw [BitVec.toNat_ofNat, BitVec.toNat_add, BitVec.toNat_setWidth, BitVec.toNat_setWidth]; omega
theorem OE_eq : OE = 1#256 := by decide +kernel
theorem OX_lt (x : BitVec 8) : (OX x).toNat < 256 := by rw [OX_nat]; exact x.isLt
def hC (a b : BitVec 256) (x y z : BitVec 8) : List (Bool × Bool) := [(false != (limb (shlW (re (OX y)) (re (shlW (re (OX x)) (re a)))) 0 == limb (shlW (re (OXY x y)) (re a)) 0 && (limb (shlW (re (OX y)) (re (shlW (re (OX x)) (re a)))) 1 == limb (shlW (re (OXY x y)) (re a)) 1 && (limb (shlW (re (OX y)) (re (shlW (re (OX x)) (re a)))) 2 == limb (shlW (re (OXY x y)) (re a)) 2 && (limb (shlW (re (OX y)) (re (shlW (re (OX x)) (re a)))) 3 == limb (shlW (re (OXY x y)) (re a)) 3 && true)))), true),
  (false != (limb (shrW (re (OX y)) (re (shrW (re (OX x)) (re a)))) 0 == limb (shrW (re (OXY x y)) (re a)) 0 && (limb (shrW (re (OX y)) (re (shrW (re (OX x)) (re a)))) 1 == limb (shrW (re (OXY x y)) (re a)) 1 && (limb (shrW (re (OX y)) (re (shrW (re (OX x)) (re a)))) 2 == limb (shrW (re (OXY x y)) (re a)) 2 && (limb (shrW (re (OX y)) (re (shrW (re (OX x)) (re a)))) 3 == limb (shrW (re (OXY x y)) (re a)) 3 && true)))), true),
  (false != (limb (sarW (re (OX y)) (re (sarW (re (OX x)) (re a)))) 0 == limb (sarW (re (OXY x y)) (re a)) 0 && (limb (sarW (re (OX y)) (re (sarW (re (OX x)) (re a)))) 1 == limb (sarW (re (OXY x y)) (re a)) 1 && (limb (sarW (re (OX y)) (re (sarW (re (OX x)) (re a)))) 2 == limb (sarW (re (OXY x y)) (re a)) 2 && (limb (sarW (re (OX y)) (re (sarW (re (OX x)) (re a)))) 3 == limb (sarW (re (OXY x y)) (re a)) 3 && true)))), true),
  (false != (limb (~~~mkW (limb (~~~(mkW (BitVec.ofInt 64 0) (BitVec.ofInt 64 0) (BitVec.ofInt 64 0) (BitVec.ofInt 64 0))) 0 &&& limb a 0 &&& limb b 0) (limb (~~~(mkW (BitVec.ofInt 64 0) (BitVec.ofInt 64 0) (BitVec.ofInt 64 0) (BitVec.ofInt 64 0))) 1 &&& limb a 1 &&& limb b 1) (limb (~~~(mkW (BitVec.ofInt 64 0) (BitVec.ofInt 64 0) (BitVec.ofInt 64 0) (BitVec.ofInt 64 0))) 2 &&& limb a 2 &&& limb b 2) (limb (~~~(mkW (BitVec.ofInt 64 0) (BitVec.ofInt 64 0) (BitVec.ofInt 64 0) (BitVec.ofInt 64 0))) 3 &&& limb a 3 &&& limb b 3)) 0 == (BitVec.ofInt 64 0 ||| limb (~~~re a) 0 ||| limb (~~~re b) 0) && (limb (~~~mkW (limb (~~~(mkW (BitVec.ofInt 64 0) (BitVec.ofInt 64 0) (BitVec.ofInt 64 0) (BitVec.ofInt 64 0))) 0 &&& limb a 0 &&& limb b 0) (limb (~~~(mkW (BitVec.ofInt 64 0) (BitVec.ofInt 64 0) (BitVec.ofInt 64 0) (BitVec.ofInt 64 0))) 1 &&& limb a 1 &&& limb b 1) (limb (~~~(mkW (BitVec.ofInt 64 0) (BitVec.ofInt 64 0) (BitVec.ofInt 64 0) (BitVec.ofInt 64 0))) 2 &&& limb a 2 &&& limb b 2) (limb (~~~(mkW (BitVec.ofInt 64 0) (BitVec.ofInt 64 0) (BitVec.ofInt 64 0) (BitVec.ofInt 64 0))) 3 &&& limb a 3 &&& limb b 3)) 1 == (BitVec.ofInt 64 0 ||| limb (~~~re a) 1 ||| limb (~~~re b) 1) && (limb (~~~mkW (limb (~~~(mkW (BitVec.ofInt 64 0) (BitVec.ofInt 64 0) (BitVec.ofInt 64 0) (BitVec.ofInt 64 0))) 0 &&& limb a 0 &&& limb b 0) (limb (~~~(mkW (BitVec.ofInt 64 0) (BitVec.ofInt 64 0) (BitVec.ofInt 64 0) (BitVec.ofInt 64 0))) 1 &&& limb a 1 &&& limb b 1) (limb (~~~(mkW (BitVec.ofInt 64 0) (BitVec.ofInt 64 0) (BitVec.ofInt 64 0) (BitVec.ofInt 64 0))) 2 &&& limb a 2 &&& limb b 2) (limb (~~~(mkW (BitVec.ofInt 64 0) (BitVec.ofInt 64 0) (BitVec.ofInt 64 0) (BitVec.ofInt 64 0))) 3 &&& limb a 3 &&& limb b 3)) 2 == (BitVec.ofInt 64 0 ||| limb (~~~re a) 2 ||| limb (~~~re b) 2) && (limb (~~~mkW (limb (~~~(mkW (BitVec.ofInt 64 0) (BitVec.ofInt 64 0) (BitVec.ofInt 64 0) (BitVec.ofInt 64 0))) 0 &&& limb a 0 &&& limb b 0) (limb (~~~(mkW (BitVec.ofInt 64 0) (BitVec.ofInt 64 0) (BitVec.ofInt 64 0) (BitVec.ofInt 64 0))) 1 &&& limb a 1 &&& limb b 1) (limb (~~~(mkW (BitVec.ofInt 64 0) (BitVec.ofInt 64 0) (BitVec.ofInt 64 0) (BitVec.ofInt 64 0))) 2 &&& limb a 2 &&& limb b 2) (limb (~~~(mkW (BitVec.ofInt 64 0) (BitVec.ofInt 64 0) (BitVec.ofInt 64 0) (BitVec.ofInt 64 0))) 3 &&& limb a 3 &&& limb b 3)) 3 == (BitVec.ofInt 64 0 ||| limb (~~~re a) 3 ||| limb (~~~re b) 3) && true)))), true),
  (false != (limb (shlW (re (OX x)) (re a)) 0 == limb ((re a) * (re (shlW (re (OX x)) (re OE)))) 0 && (limb (shlW (re (OX x)) (re a)) 1 == limb ((re a) * (re (shlW (re (OX x)) (re OE)))) 1 && (limb (shlW (re (OX x)) (re a)) 2 == limb ((re a) * (re (shlW (re (OX x)) (re OE)))) 2 && (limb (shlW (re (OX x)) (re a)) 3 == limb ((re a) * (re (shlW (re (OX x)) (re OE)))) 3 && true)))), true),
  (false != (limb (shrW (re (OX x)) (re a)) 0 == limb (divW (re a) (re (shlW (re (OX x)) (re OE)))) 0 && (limb (shrW (re (OX x)) (re a)) 1 == limb (divW (re a) (re (shlW (re (OX x)) (re OE)))) 1 && (limb (shrW (re (OX x)) (re a)) 2 == limb (divW (re a) (re (shlW (re (OX x)) (re OE)))) 2 && (limb (shrW (re (OX x)) (re a)) 3 == limb (divW (re a) (re (shlW (re (OX x)) (re OE)))) 3 && true)))), true),
  (false != (limb (extW (re (OZ z)) (re (extW (re (OZ z)) (re a)))) 0 == limb (extW (re (OZ z)) (re a)) 0 && (limb (extW (re (OZ z)) (re (extW (re (OZ z)) (re a)))) 1 == limb (extW (re (OZ z)) (re a)) 1 && (limb (extW (re (OZ z)) (re (extW (re (OZ z)) (re a)))) 2 == limb (extW (re (OZ z)) (re a)) 2 && (limb (extW (re (OZ z)) (re (extW (re (OZ z)) (re a)))) 3 == limb (extW (re (OZ z)) (re a)) 3 && true)))), true),
  (false != ((BitVec.ofInt 64 0 ^^^ (BitVec.ofInt 64 0 ^^^ limb a 0 ^^^ limb b 0) ^^^ limb b 0) == limb a 0 && ((BitVec.ofInt 64 0 ^^^ (BitVec.ofInt 64 0 ^^^ limb a 1 ^^^ limb b 1) ^^^ limb b 1) == limb a 1 && ((BitVec.ofInt 64 0 ^^^ (BitVec.ofInt 64 0 ^^^ limb a 2 ^^^ limb b 2) ^^^ limb b 2) == limb a 2 && ((BitVec.ofInt 64 0 ^^^ (BitVec.ofInt 64 0 ^^^ limb a 3 ^^^ limb b 3) ^^^ limb b 3) == limb a 3 && true)))), true)]
theorem hC_ok (a b : BitVec 256) (x y z : BitVec 8) : AllE (hC a b x y z) := allE_cons (limbs_same (by simp only [re_eq, mk_limb]; exact shl_shl (OX_lt _) (OX_lt _) (OXY_nat _ _))) (
  allE_cons (limbs_same (by simp only [re_eq, mk_limb]; exact shr_shr (OXY_nat _ _))) (
  allE_cons (limbs_same (by simp only [re_eq, mk_limb]; exact sar_sar (OXY_nat _ _))) (
  allE_cons (limbs4 (by rw [← not_limb _ 0 (by decide), ← not_limb _ 0 (by decide), ← not_limb _ 0 (by decide), (limb_mkW _ _ _ _).1, ← not_limb _ 0 (by decide), (limb_mkW _ _ _ _).1, re_eq, re_eq]; exact not_and) (by rw [← not_limb _ 1 (by decide), ← not_limb _ 1 (by decide), ← not_limb _ 1 (by decide), (limb_mkW _ _ _ _).2.1, ← not_limb _ 1 (by decide), (limb_mkW _ _ _ _).2.1, re_eq, re_eq]; exact not_and) (by rw [← not_limb _ 2 (by decide), ← not_limb _ 2 (by decide), ← not_limb _ 2 (by decide), (limb_mkW _ _ _ _).2.2.1, ← not_limb _ 2 (by decide), (limb_mkW _ _ _ _).2.2.1, re_eq, re_eq]; exact not_and) (by rw [← not_limb _ 3 (by decide), ← not_limb _ 3 (by decide), ← not_limb _ 3 (by decide), (limb_mkW _ _ _ _).2.2.2, ← not_limb _ 3 (by decide), (limb_mkW _ _ _ _).2.2.2, re_eq, re_eq]; exact not_and)) (
  allE_cons (limbs_same (by simp only [re_eq, mk_limb, OE_eq]; exact shl_mul (OX_lt _))) (
  allE_cons (limbs_same (by simp only [re_eq, mk_limb, OE_eq]; exact shr_div (OX_lt _))) (
  allE_cons (limbs_same (by simp only [re_eq, mk_limb]; exact ext_ext _ _)) (
  allE_cons (limbs4 xor_xor' xor_xor' xor_xor' xor_xor') (
  allE_nil))))))))
theorem holds_ev (a b : BitVec 256) (x y z : BitVec 8) : Is (evCall EL3 60 7 [wA a, wA b, .agg [.bv .u8 x, .bv .u8 y, .bv .u8 z]] ⟨[], [true, true, true, true, true, true, true, true], allW⟩ (fun v _ => v = .bool true true)) := ev_eq (hC a b x y z) (.bool true true : AV) (by kernel_rfl) (hC_ok a b x y z)
theorem holds_any (a b : BitVec 256) (x y z : BitVec 8) (w : World) (hT : TabTz 0 w) : Calls Tryd.prog 7 #[W a, W b, .agg #[.int .u8 (x.toNat : Int), .int .u8 (y.toNat : Int), .int .u8 (z.toNat : Int)]] w fun e w' => e = .returned (.bool true) ∧ Below w.heap.size w w' := ev_callsR EL3_ok 60 (holds_ev a b x y z) rfl (.cons (rel_wA _ a) (.cons (rel_wA _ b) (.cons (.agg (.cons (.bv rfl) (.cons (.bv rfl) (.cons (.bv rfl) .nil)))) .nil))) w (RT_rd hT (by simp [nums, bs]))
theorem u8_of {i : Int} (h : (Lit.int .u8 i).wf = true) : ∃ x : BitVec 8, i = (x.toNat : Int) := by
  have b := bounds_u8 h
  exact ⟨BitVec.ofInt 8 i, by rw [BitVec.toNat_ofInt]; omega⟩
end

section
theorem rowsT_sub {R : Rws} {nb : List Nat} {w : World} (h1 : R 1 = none) (h : Rd (rowsT R) nb w) : Rd R nb w := fun j r hj b off hA h0 => by
  by_cases e : j = 1
  · subst e; rw [h1] at hj; cases hj
  · exact h j r (by show (bif Nat.beq j 1 then some tabRow else R j) = some r; rw [nb_ne e]; exact hj) b off hA h0
theorem rowsT_rd {R : Rws} {nb : List Nat} {w : World} (h : Rd R nb w) (hT : TabTz 0 w) (hnb : 0 ∉ nb) : Rd (rowsT R) nb w := fun j r hj b off hA h0 => by
  have hj' : (bif Nat.beq j 1 then some tabRow else R j) = some r := hj
  cases hb : Nat.beq j 1 <;> simp only [hb, cond_true, cond_false] at hj'
  · exact h j r hj' b off hA h0
  · cases hj'
    exact RT_rd hT hnb 1 tabRow rfl b off hA h0
theorem rowW_rw {A : Option Addr} {xs : List (BitVec 256)} (hA : 0 < xs.length → ∃ b off, A = some ⟨b, off, none⟩) : RwOK (rows1 (rowW A xs)) := by
  refine ⟨fun j r hj i hi => ?_, fun j r hj i hi => ?_, fun j r hj i hi v hv => ?_, fun j r hj h0 => ?_, fun j r hj a j' ha => ?_⟩
  · obtain ⟨_, rfl⟩ := rows1_inv hj
    have := vals_wC (xs.getD i 0#256)
    simpa [rowW] using this
  · obtain ⟨_, rfl⟩ := rows1_inv hj; rfl
  · obtain ⟨_, rfl⟩ := rows1_inv hj
    simp only [rowW, List.mem_cons, List.not_mem_nil, or_false] at hv
    rcases hv with rfl | rfl | rfl | rfl <;> rfl
  · obtain ⟨_, rfl⟩ := rows1_inv hj; exact hA h0
  · obtain ⟨_, rfl⟩ := rows1_inv hj; cases ha
def wordsC (xs : List (BitVec 256)) : List Value := xs.flatMap fun x => [.int .u64 (L x 0), .int .u64 (L x 1), .int .u64 (L x 2), .int .u64 (L x 3)]
theorem rowW_rd {A : Option Addr} {xs : List (BitVec 256)} {w : World} (hS : SlAt w A (wordsC xs)) : (0 < xs.length → ∃ b off, A = some ⟨b, off, none⟩) ∧ Rd (rows1 (rowW A xs)) [] w := by
  rcases hS with h | ⟨b, off, rfl, hb, hc⟩
  · have : xs = [] := by cases xs with
      | nil => rfl
      | cons x r => simp [wordsC] at h
    subst this
    exact ⟨fun h => absurd h (by simp), fun j r hj b off hA h0 => by obtain ⟨_, rfl⟩ := rows1_inv hj; exact absurd h0 (by simp [rowW])⟩
  · refine ⟨fun _ => ⟨b, off, rfl⟩, fun j r hj b' off' hA h0 => ?_⟩
    obtain ⟨_, rfl⟩ := rows1_inv hj
    have hA : some (⟨b, off, none⟩ : Addr) = some ⟨b', off', none⟩ := hA
    cases hA
    refine ⟨by simp, hb, fun i hi q u hu => ?_⟩
    have hi : i < xs.length := hi
    have hq : q < 4 := (List.getElem?_eq_some_iff.1 hu).1
    have := flat_at (f := fun x : BitVec 256 => [Value.int .u64 (L x 0), .int .u64 (L x 1), .int .u64 (L x 2), .int .u64 (L x 3)]) (n := 4) (fun _ => rfl) xs i (xs.getD i 0#256) (by rw [List.getD_eq_getElem?_getD, List.getElem?_eq_getElem hi]; rfl) q hq
    have h2 := hc (i * 4 + q) u (this.trans hu)
    rw [Nat.add_assoc]
    exact h2
def ctrFd (xs : List (BitVec 256)) : CtrF
  | [y, .func (.func g) [], .rsl 0 _ _], _ => match asW y with
    | some y => bif Nat.beq g 46 then some (wA (foW andW y xs xs.length), []) else
      bif Nat.beq g 48 then some (wA (foW orW y xs xs.length), []) else
      bif Nat.beq g 49 then some (wA (foW xorW y xs xs.length), []) else none
    | none => none
  | _, _ => none
theorem rows0 {R : Rws} {r r' : RowI} (h : rowsT (rows1 r) 0 = some r') : r' = r := (rows1_inv (show rows1 r 0 = some r' from h)).2
theorem ctrFd_ok {A : Option Addr} {xs : List (BitVec 256)} (hRw : RwOK (rows1 (rowW A xs))) (hn : xs.length ≤ 1000) : Good Tryd.prog (rowsT (rows1 (rowW A xs))) 45 (ctrFd xs) := by
  refine ⟨enters_of Tryd.func45 (by kernel_rfl) rfl, fun args H v cs hv hcs => ?_⟩
  unfold ctrFd at hv
  split at hv
  · rename_i y g _ _
    split at hv
    · rename_i x hx
      cases h1 : Nat.beq g 46 <;> simp only [h1, cond_true, cond_false] at hv
      · cases h2 : Nat.beq g 48 <;> simp only [h2, cond_true, cond_false] at hv
        · cases h3 : Nat.beq g 49 <;> simp only [h3, cond_true, cond_false] at hv
          · cases hv
          · obtain rfl := Nat.eq_of_beq_eq_true h3
            cases hv
            refine ⟨_, told_wA _, fun Hr Args ha _ _ w hO => ?_⟩
            cases ha with | cons a1 ha => cases ha with | cons a2 ha => cases ha with | cons a3 ha =>
            cases ha
            rw [asW_rel hx a1]
            cases a2 with | func hv => cases hv; cases a3 with | rsl h hc => cases rows0 (R := noRows) h; exact fd_xor_any A xs _ x hRw hc hn w (rowsT_sub rfl (hO.2.sub (by simp)))
        · obtain rfl := Nat.eq_of_beq_eq_true h2
          cases hv
          refine ⟨_, told_wA _, fun Hr Args ha _ _ w hO => ?_⟩
          cases ha with | cons a1 ha => cases ha with | cons a2 ha => cases ha with | cons a3 ha =>
          cases ha
          rw [asW_rel hx a1]
          cases a2 with | func hv => cases hv; cases a3 with | rsl h hc => cases rows0 (R := noRows) h; exact fd_or_any A xs _ x hRw hc hn w (rowsT_sub rfl (hO.2.sub (by simp)))
      · obtain rfl := Nat.eq_of_beq_eq_true h1
        cases hv
        refine ⟨_, told_wA _, fun Hr Args ha _ _ w hO => ?_⟩
        cases ha with | cons a1 ha => cases ha with | cons a2 ha => cases ha with | cons a3 ha =>
        cases ha
        rw [asW_rel hx a1]
        cases a2 with | func hv => cases hv; cases a3 with | rsl h hc => cases rows0 (R := noRows) h; exact fd_and_any A xs _ x hRw hc hn w (rowsT_sub rfl (hO.2.sub (by simp)))
    · cases hv
  · cases hv
def ctrFo (xs : List (BitVec 256)) : CtrF
  | [.rsl 0 _ _, .int .i64 _ k], _ => if k = 0 then some (wA (bt (fFold xs 0) 256), []) else if k = 1 then some (wA (bt (fFold xs 1) 256), []) else if k = 2 then some (wA (bt (fFold xs 2) 256), []) else none
  | _, _ => none
theorem ctrFo_ok {A : Option Addr} {xs : List (BitVec 256)} (hRw : RwOK (rows1 (rowW A xs))) (hn : xs.length ≤ 1000) : Good Tryd.prog (rowsT (rows1 (rowW A xs))) 23 (ctrFo xs) := by
  refine ⟨enters_of Tryd.func23 (by kernel_rfl) rfl, fun args H v cs hv hcs => ?_⟩
  unfold ctrFo at hv
  split at hv
  · split at hv
    · rename_i e; subst e; cases hv
      refine ⟨_, told_wA _, fun Hr Args ha _ _ w hO => ?_⟩
      cases ha with | cons a1 ha => cases ha with | cons a2 ha =>
      cases ha
      cases a2; cases a1 with | rsl h hc => cases rows0 (R := noRows) h; exact fold0_any A xs _ hRw hc hn w (rowsT_sub rfl (hO.2.sub (by simp)))
    · split at hv
      · rename_i e; subst e; cases hv
        refine ⟨_, told_wA _, fun Hr Args ha _ _ w hO => ?_⟩
        cases ha with | cons a1 ha => cases ha with | cons a2 ha =>
        cases ha
        cases a2; cases a1 with | rsl h hc => cases rows0 (R := noRows) h; exact fold1_any A xs _ hRw hc hn w (rowsT_sub rfl (hO.2.sub (by simp)))
      · split at hv
        · rename_i e; subst e; cases hv
          refine ⟨_, told_wA _, fun Hr Args ha _ _ w hO => ?_⟩
          cases ha with | cons a1 ha => cases ha with | cons a2 ha =>
          cases ha
          cases a2; cases a1 with | rsl h hc => cases rows0 (R := noRows) h; exact fold2_any A xs _ hRw hc hn w (rowsT_sub rfl (hO.2.sub (by simp)))
        · cases hv
  · cases hv
theorem works3_goodR {R : Rws} : Good Tryd.prog (rowsT R) 14 (ctr0 (.bool true true)) := by
  refine ⟨enters_of Tryd.func14 (by kernel_rfl) rfl, fun args H v cs hF hc => ?_⟩
  unfold ctr0 at hF
  split at hF
  · simp only [Option.some.injEq, Prod.mk.injEq] at hF
    obtain ⟨rfl, rfl⟩ := hF
    refine ⟨.bool true, rfl, fun Hr Args hA hB hAp w hO => ?_⟩
    cases hA
    exact works3_any w (rowsT_tab hO.2)
  · cases hF
noncomputable def tabF (xs : List (BitVec 256)) : List (Nat × CtrF) := (45, ctrFd xs) :: (23, ctrFo xs) :: tabL3
noncomputable abbrev EF (A : Option Addr) (xs : List (BitVec 256)) : Env := mkEnv (rowsT (rows1 (rowW A xs))) (tabF xs)
theorem EF_ok {A : Option Addr} {xs : List (BitVec 256)} (hRw : RwOK (rows1 (rowW A xs))) (hn : xs.length ≤ 1000) : EnvOK (EF A xs) := mkEnv_ok (rowsT_ok hRw (fun j r h => by obtain ⟨_, rfl⟩ := rows1_inv h; rfl)) (good_cons (p := (_, _)) (ctrFd_ok hRw hn) (good_cons (p := (_, _)) (ctrFo_ok hRw hn) (good_cons (p := (_, _)) works3_goodR tabZ_ok)))
end

section
theorem Z0_eq : mkW (BitVec.ofInt 64 0) (BitVec.ofInt 64 0) (BitVec.ofInt 64 0) (BitVec.ofInt 64 0) = 0#256 := by decide +kernel
theorem foW_and (y : BitVec 256) (xs : List (BitVec 256)) (j : Nat) : ∀ k, (foW andW y xs k).getLsbD j = (y.getLsbD j && decide (cntN xs j k = k))
  | 0 => by simp [foW, cntN]
  | k + 1 => by
    have ih := foW_and y xs j k
    have hle := cntN_le xs j k
    rw [show (foW andW y xs (k + 1)).getLsbD j = ((foW andW y xs k).getLsbD j && (xs.getD k 0#256).getLsbD j) from BitVec.getLsbD_and, ih]
    by_cases h : (xs.getD k 0#256).getLsbD j = true
    · rw [cntN_t h, h, Bool.and_true]
      congr 1
      rw [decide_eq_decide]; omega
    · rw [cntN_f h, Bool.eq_false_iff.2 h, Bool.and_false, decide_eq_false (show ¬ cntN xs j k = k + 1 by omega), Bool.and_false]
theorem foW_or (y : BitVec 256) (xs : List (BitVec 256)) (j : Nat) : ∀ k, (foW orW y xs k).getLsbD j = (y.getLsbD j || decide (0 < cntN xs j k))
  | 0 => by simp [foW, cntN]
  | k + 1 => by
    have ih := foW_or y xs j k
    rw [show (foW orW y xs (k + 1)).getLsbD j = ((foW orW y xs k).getLsbD j || (xs.getD k 0#256).getLsbD j) from BitVec.getLsbD_or, ih]
    by_cases h : (xs.getD k 0#256).getLsbD j = true
    · rw [cntN_t h, h, Bool.or_true, decide_eq_true (show 0 < cntN xs j k + 1 by omega), Bool.or_true]
    · rw [cntN_f h, Bool.eq_false_iff.2 h, Bool.or_false]
theorem foW_xor (y : BitVec 256) (xs : List (BitVec 256)) (j : Nat) : ∀ k, (foW xorW y xs k).getLsbD j = (y.getLsbD j ^^ (cntN xs j k % 2 == 1))
  | 0 => by simp [foW, cntN]
  | k + 1 => by
    have ih := foW_xor y xs j k
    rw [show (foW xorW y xs (k + 1)).getLsbD j = ((foW xorW y xs k).getLsbD j ^^ (xs.getD k 0#256).getLsbD j) from BitVec.getLsbD_xor, ih]
    by_cases h : (xs.getD k 0#256).getLsbD j = true
    · rw [cntN_t h, h, Bool.xor_assoc]
      congr 1
      rcases (by omega : cntN xs j k % 2 = 0 ∨ cntN xs j k % 2 = 1) with e | e
      · rw [e, show (cntN xs j k + 1) % 2 = 1 by omega]; rfl
      · rw [e, show (cntN xs j k + 1) % 2 = 0 by omega]; rfl
    · rw [cntN_f h, Bool.eq_false_iff.2 h, Bool.xor_false]
theorem and_fold (xs : List (BitVec 256)) : foW andW (~~~0#256) xs xs.length = bt (fFold xs 0) 256 := (bt_eq fun j hj => by
  rw [foW_and, BitVec.getLsbD_not, decide_eq_true hj, BitVec.getLsbD_zero]
  show (cntN xs j xs.length == xs.length) = _
  rw [Bool.not_false, Bool.true_and, Bool.true_and]; rfl).symm
theorem or_fold (xs : List (BitVec 256)) : foW orW 0#256 xs xs.length = bt (fFold xs 1) 256 := (bt_eq fun j hj => by
  rw [foW_or, BitVec.getLsbD_zero, Bool.false_or]; rfl).symm
theorem xor_fold (xs : List (BitVec 256)) : foW xorW 0#256 xs xs.length = bt (fFold xs 2) 256 := (bt_eq fun j hj => by
  rw [foW_xor, BitVec.getLsbD_zero, Bool.false_xor]; rfl).symm
noncomputable abbrev EFn (A : Option Addr) (xs : List (BitVec 256)) : Env := mkEnv (rowsT (rows1 (rowW A xs))) tabL3
theorem EFn_ok {A : Option Addr} {xs : List (BitVec 256)} (hRw : RwOK (rows1 (rowW A xs))) : EnvOK (EFn A xs) := mkEnv_ok (rowsT_ok hRw (fun j r h => by obtain ⟨_, rfl⟩ := rows1_inv h; rfl)) (good_cons (p := (_, _)) works3_goodR tabZ_ok)
theorem folds_long (A : Option Addr) (xs : List (BitVec 256)) (c : Nat) (a : BitVec 256) (h : xs.length > 12) : Is (evCall (EFn A xs) 60 6 [.rsl 0 (RowI.n (rowW A xs)) c, wA a] ⟨[], [true], allW⟩ (fun v _ => v = .bool true true)) := ev_eq [(decide ((↑(RowI.n (rowW A xs)) : Int) > 12), true)] (.bool true true : AV) (by kernel_rfl) (allE_cons (decide_eq_true (by show ((xs.length : Int) > 12); omega)) allE_nil)
theorem folds_few (A : Option Addr) (xs : List (BitVec 256)) (c : Nat) (a : BitVec 256) (h : ¬ xs.length > 12) : Is (evCall (EF A xs) 60 6 [.rsl 0 (RowI.n (rowW A xs)) c, wA a] ⟨[], [false, true, true, true, true], allW⟩ (fun v _ => v = .bool true true)) := ev_eq [(decide ((↑(RowI.n (rowW A xs)) : Int) > 12), false), (false != (limb (foW andW (re (~~~mkW (BitVec.ofInt 64 0) (BitVec.ofInt 64 0) (BitVec.ofInt 64 0) (BitVec.ofInt 64 0))) xs (List.length xs)) 0 == limb (bt (fFold xs 0) 256) 0 && (limb (foW andW (re (~~~mkW (BitVec.ofInt 64 0) (BitVec.ofInt 64 0) (BitVec.ofInt 64 0) (BitVec.ofInt 64 0))) xs (List.length xs)) 1 == limb (bt (fFold xs 0) 256) 1 && (limb (foW andW (re (~~~mkW (BitVec.ofInt 64 0) (BitVec.ofInt 64 0) (BitVec.ofInt 64 0) (BitVec.ofInt 64 0))) xs (List.length xs)) 2 == limb (bt (fFold xs 0) 256) 2 && (limb (foW andW (re (~~~mkW (BitVec.ofInt 64 0) (BitVec.ofInt 64 0) (BitVec.ofInt 64 0) (BitVec.ofInt 64 0))) xs (List.length xs)) 3 == limb (bt (fFold xs 0) 256) 3 && true)))), true), (false != (limb (foW orW (mkW (BitVec.ofInt 64 0) (BitVec.ofInt 64 0) (BitVec.ofInt 64 0) (BitVec.ofInt 64 0)) xs (List.length xs)) 0 == limb (bt (fFold xs 1) 256) 0 && (limb (foW orW (mkW (BitVec.ofInt 64 0) (BitVec.ofInt 64 0) (BitVec.ofInt 64 0) (BitVec.ofInt 64 0)) xs (List.length xs)) 1 == limb (bt (fFold xs 1) 256) 1 && (limb (foW orW (mkW (BitVec.ofInt 64 0) (BitVec.ofInt 64 0) (BitVec.ofInt 64 0) (BitVec.ofInt 64 0)) xs (List.length xs)) 2 == limb (bt (fFold xs 1) 256) 2 && (limb (foW orW (mkW (BitVec.ofInt 64 0) (BitVec.ofInt 64 0) (BitVec.ofInt 64 0) (BitVec.ofInt 64 0)) xs (List.length xs)) 3 == limb (bt (fFold xs 1) 256) 3 && true)))), true), (false != (limb (foW xorW (mkW (BitVec.ofInt 64 0) (BitVec.ofInt 64 0) (BitVec.ofInt 64 0) (BitVec.ofInt 64 0)) xs (List.length xs)) 0 == limb (bt (fFold xs 2) 256) 0 && (limb (foW xorW (mkW (BitVec.ofInt 64 0) (BitVec.ofInt 64 0) (BitVec.ofInt 64 0) (BitVec.ofInt 64 0)) xs (List.length xs)) 1 == limb (bt (fFold xs 2) 256) 1 && (limb (foW xorW (mkW (BitVec.ofInt 64 0) (BitVec.ofInt 64 0) (BitVec.ofInt 64 0) (BitVec.ofInt 64 0)) xs (List.length xs)) 2 == limb (bt (fFold xs 2) 256) 2 && (limb (foW xorW (mkW (BitVec.ofInt 64 0) (BitVec.ofInt 64 0) (BitVec.ofInt 64 0) (BitVec.ofInt 64 0)) xs (List.length xs)) 3 == limb (bt (fFold xs 2) 256) 3 && true)))), true), (false != (limb (~~~re a) 0 == limb (~~~re a) 0 && (limb (~~~re a) 1 == limb (~~~re a) 1 && (limb (~~~re a) 2 == limb (~~~re a) 2 && (limb (~~~re a) 3 == limb (~~~re a) 3 && true)))), true)] (.bool true true : AV) (by kernel_rfl) (allE_cons (decide_eq_false (by show ¬ ((xs.length : Int) > 12); omega)) (allE_cons (limbs_same (by rw [re_eq, Z0_eq]; exact and_fold xs)) (allE_cons (limbs_same (by rw [Z0_eq]; exact or_fold xs)) (allE_cons (limbs_same (by rw [Z0_eq]; exact xor_fold xs)) (allE_cons (limbs_same rfl) (allE_nil))))))
theorem folds_any (A : Option Addr) (xs : List (BitVec 256)) (c : Nat) (a : BitVec 256) (w : World) (hS : SlAt w A (wordsC xs)) (hc : xs.length ≤ c) (hT : TabTz 0 w) : Calls Tryd.prog 6 #[.slice A xs.length c, W a] w fun e w' => e = .returned (.bool true) ∧ Below w.heap.size w w' := by
  obtain ⟨hA, hr⟩ := rowW_rd hS
  have hRw := rowW_rw hA
  by_cases h : xs.length > 12
  · exact ev_callsR (EFn_ok hRw) 60 (folds_long A xs c a h) rfl (.cons (.rsl rfl hc) (.cons (rel_wA _ a) .nil)) w (rowsT_rd hr hT (by simp))
  · exact ev_callsR (EF_ok hRw (by omega)) 60 (folds_few A xs c a h) rfl (.cons (.rsl rfl hc) (.cons (rel_wA _ a) .nil)) w (rowsT_rd hr hT (by simp))
end

section
def natV (xs : List Nat) : List Value := xs.map fun x : Nat => Value.int .i64 (x : Int)
def bitsUp (a : BitVec 256) (k : Nat) : List Nat := (List.range k).filter fun i => a.getLsbD i
theorem bitsUp_t {a : BitVec 256} {k : Nat} (h : a.getLsbD k = true) : bitsUp a (k + 1) = bitsUp a k ++ [k] := by
  unfold bitsUp; rw [List.range_succ, List.filter_append]; simp [h]
theorem bitsUp_f {a : BitVec 256} {k : Nat} (h : a.getLsbD k = false) : bitsUp a (k + 1) = bitsUp a k := by
  unfold bitsUp; rw [List.range_succ, List.filter_append]; simp [h]
theorem bitsUp_le (a : BitVec 256) (k : Nat) : (bitsUp a k).length ≤ k := by
  unfold bitsUp; have := List.length_filter_le (fun i => a.getLsbD i) (List.range k); simpa using this
theorem natV_snoc (xs : List Nat) (k : Nat) : natV (xs ++ [k]) = natV xs ++ [.int .i64 (k : Int)] := by simp [natV]
theorem tinfo_int : (Tryd.prog.info? 3).map (fun i => (i.zero, i.size, i.bytes)) = some (some (.int .i64 0), 1, 8) := by kernel_rfl
theorem under_ints : Tryd.prog.underlying 30 = some (.slice 3) := by kernel_rfl
def EaRel (a : BitVec 256) (w : World) (v i : Value) (wr : World) : Prop :=
  ∃ k : Nat, k ≤ 256 ∧ i = .int .i64 (k : Int) ∧ wr.ownsRow (w.heap.size + 1) 3 1 v (bitsUp a k).length (natV (bitsUp a k)) ∧ Below (w.heap.size + 1) (w.alloc (.cells #[.int .u64 (L a 0), .int .u64 (L a 1), .int .u64 (L a 2), .int .u64 (L a 3)] 24)) wr
set_option maxHeartbeats 2000000 in
theorem refEach_any (a : BitVec 256) (w : World) : Calls Tryd.prog 19 #[W a] w fun e w' => ∃ v, e = .returned v ∧ w'.ownsRow w.heap.size 3 1 v (bitsUp a 256).length (natV (bitsUp a 256)) ∧ Below w.heap.size w w' := by
  obtain ⟨i0, hi, hz0, hz1, hz2⟩ := info_parts tinfo_int
  have HB := Lib.hid (fun k (h : k < 256) V => refBitW a k h V)
  go_enter Tryd.func19, Tryd.ntmps19
  go_wp2_with fail
  go_loopw [3, 4] (fun v i wr => EaRel a w v i wr) (fun _ i _ => (256 - intOf i).toNat)
  case atStart => exact ⟨0, Nat.zero_le _, rfl, World.ownsRow_nil _ _ _ _, by go_grown⟩
  case round =>
    obtain ⟨k, hk, rfl, hown, hb⟩ := hrel
    by_cases hlt : k < 256
    · have ca : ∀ j v, (#[.int .u64 (L a 0), .int .u64 (L a 1), .int .u64 (L a 2), .int .u64 (L a 3)] : Array Value)[j]? = some v → wr.cell? ⟨w.heap.size, j, none⟩ = some v := fun j v hv => (hb.cell (p := ⟨w.heap.size, j, none⟩) (by simp)).trans (newc _ _ _ _ hv)
      have ca0 := ca 0 _ rfl; have ca1 := ca 1 _ rfl; have ca2 := ca 2 _ rfl; have ca3 := ca 3 _ rfl
      have hsz := hb.size
      simp only [World.size_alloc] at hsz
      clear ca
      have hle := bitsUp_le a k
      rcases hbit : a.getLsbD k with _ | _
      · have HK := Lib.hid (HB.out k hlt)
        rw [hbit] at HK
        go_wp2_with fail
        refine (HK.out _).mono ?_
        rintro e w1 ⟨rfl, hb1⟩
        have hown1 := owns_below hown hb1
        have hb2 := hb.trans (hb1.mono hsz)
        clear hb1 hown hb
        go_wp2_with fail
        exact ⟨⟨k + 1, by omega, by go_num, by rw [bitsUp_f hbit]; exact hown1, hb2⟩, by first | (simp [intOf]; done) | (simp [intOf]; omega)⟩
      · have HK := Lib.hid (HB.out k hlt)
        rw [hbit] at HK
        go_wp2_with fail
        refine (HK.out _).mono ?_
        rintro e w1 ⟨rfl, hb1⟩
        have hown1 := owns_below hown hb1
        have hb2 := hb.trans (hb1.mono hsz)
        have hsz1 := hb1.size
        clear hb1 hown hb
        go_wp2_with (first | (at_builtin; refine wpList_append_own _ rfl _ _ 30 rfl (w.heap.size + 1) 3 i0 _ 1 8 under_ints hi hz0 hz1 hz2 rfl (by decide) _ _ _ rfl (hown1.alloc _) ⟨w1.heap.size, 0, none⟩ 1 1 [.int .i64 (k : Int)] rfl rfl (news_at _ _ _) (by simp [Value.oneCell']) (by simp only [maxLen]; omega) (by omega) (by first | omega | (simp; omega)) ?_))
        intro v3 w3 hown3 hg3 _
        have hb3 : Below (w.heap.size + 1) (w.alloc (.cells #[.int .u64 (L a 0), .int .u64 (L a 1), .int .u64 (L a 2), .int .u64 (L a 3)] 24)) w3 := below_grown (hb2.alloc (by first | omega | (simp; omega)) _) (hown1.alloc _) hg3 (by first | omega | (simp; omega)) (Nat.le_refl _)
        have hown4 : w3.ownsRow (w.heap.size + 1) 3 1 v3 (bitsUp a (k + 1)).length (natV (bitsUp a (k + 1))) := by
          rw [bitsUp_t hbit, natV_snoc, List.length_append]; exact hown3
        clear hown3 hg3 hsz hown1 hb2
        go_wp2_with fail
        exact ⟨⟨k + 1, by omega, by go_num, hown4, hb3⟩, by first | (simp [intOf]; done) | (simp [intOf]; omega)⟩
    · obtain rfl : k = 256 := by omega
      have hbw : Below w.heap.size w wr := (World.below_alloc w _).trans (hb.mono (by omega))
      have HO := Lib.hid hown
      clear hown hb
      go_wp2_with fail
      go_ret
      exact ⟨_, rfl, ⟨HO.out.1, HO.out.2.imp id (fun ⟨g, cap, cur, h1, h2, h3⟩ => ⟨g, cap, cur, h1, by omega, h3⟩)⟩, hbw⟩
end

section
def rowN (A : Option Addr) (xs : List Nat) : RowI := ⟨A, xs.length, 1, fun i => [.int .i64 false ((xs.getD i.toNat 0 : Nat) : Int)], fun i => [.int .i64 ((xs.getD i 0 : Nat) : Int)], []⟩
theorem rowN_rw {A : Option Addr} {xs : List Nat} (hA : 0 < xs.length → ∃ b off, A = some ⟨b, off, none⟩) : RwOK (rows1 (rowN A xs)) := by
  refine ⟨fun j r hj i hi => ?_, fun j r hj i hi => ?_, fun j r hj i hi v hv => ?_, fun j r hj h0 => ?_, fun j r hj a j' ha => ?_⟩
  · obtain ⟨_, rfl⟩ := rows1_inv hj
    simp [rowN, AV.vals?, AV.val?]
  · obtain ⟨_, rfl⟩ := rows1_inv hj; rfl
  · obtain ⟨_, rfl⟩ := rows1_inv hj
    simp [rowN] at hv; subst hv; rfl
  · obtain ⟨_, rfl⟩ := rows1_inv hj; exact hA h0
  · obtain ⟨_, rfl⟩ := rows1_inv hj; cases ha
noncomputable abbrev EG (A : Option Addr) (xs : List Nat) : Env := mkEnv (rowsT (rows1 (rowN A xs))) tabL3
theorem EG_ok {A : Option Addr} {xs : List Nat} (hRw : RwOK (rows1 (rowN A xs))) : EnvOK (EG A xs) := mkEnv_ok (rowsT_ok hRw (fun j r h => by obtain ⟨_, rfl⟩ := rows1_inv h; rfl)) (good_cons (p := (_, _)) works3_goodR tabZ_ok)
noncomputable abbrev cG : Code := (Tryd.f5.body.getD .skip)
noncomputable abbrev nG : Nat := Tryd.f5.ntmps
noncomputable def s1 : Code := dropSeq 1 cG
noncomputable def s2 : Code := sR s1
noncomputable def s3 : Code := dropSeq 1 s2
noncomputable def s4 : Code := sR s3
noncomputable def s5 : Code := dropSeq 1 s4
noncomputable def s6 : Code := sR s5
noncomputable def sB : Code := lpB (bkB (dropSeq 1 (sL s6)))
noncomputable def sB1 : Code := dropSeq 1 sB
noncomputable def sX : Code := bkB (sL sB1)
noncomputable def sX1 : Code := dropSeq 1 sX
noncomputable def sRg : Code := dropSeq 1 (sL sX1)
def mA (a : BitVec 256) (many : Int) : Mem := [AIt.cells (wC a) 24, AIt.cells [.int .i64 false many] 3, AIt.cells [.bool true false] 4]
def mD (a : BitVec 256) (many : Int) (A : Option Addr) (xs : List Nat) (c : Nat) : Mem := mA a many ++ [AIt.cells [.rsl 0 (rowN A xs).n c] 30]
def mB (a : BitVec 256) (many : Int) (A : Option Addr) (xs : List Nat) (c : Nat) : Mem := mD a many A xs c ++ [AIt.cells (wC a) 24]
end

section
theorem st_a (a : BitVec 256) (many : Int) : ∀ r, Is (evCs EL3 60 (takeSeq 1 cG) ⟨pat (inLive 0 [wA a, .int .i64 false many]) r 0 nG, ⟨[], [], allW⟩⟩ (chK [(2, .ptr 0 0), (3, .ptr 1 0), (4, .ptr 2 0)] nG (mA a many) [])) := fun r => ev_eq [] (chR [(2, .ptr 0 0), (3, .ptr 1 0), (4, .ptr 2 0)] nG (mA a many) []) (by kernel_rfl) trivial
theorem st_b (a : BitVec 256) (many : Int) : ∀ r, Is (listP EL3 (callWith EL3 (evT EL3 60)) (regOps (sL s1)) ((regOps (sL s1)).take 1) ⟨pat [(2, .ptr 0 0), (3, .ptr 1 0), (4, .ptr 2 0)] r 0 nG, ⟨mA a many, [], allW⟩⟩ (chK [(11, wA a), (2, .ptr 0 0), (3, .ptr 1 0), (4, .ptr 2 0)] nG (mA a many) [] .normal)) := fun r => ev_eq [] (chR [(11, wA a), (2, .ptr 0 0), (3, .ptr 1 0), (4, .ptr 2 0)] nG (mA a many) []) (by kernel_rfl) trivial
theorem st_c (a : BitVec 256) (many : Int) (A : Option Addr) (xs : List Nat) (c : Nat) : ∀ r, Is (listP (EG A xs) (callWith (EG A xs) (evT (EG A xs) 60)) (regOps (sL s1)) (((regOps (sL s1)).drop 1).tail.take 2) ⟨pat [(12, .rsl 0 (rowN A xs).n c), (11, wA a), (2, .ptr 0 0), (3, .ptr 1 0), (4, .ptr 2 0)] r 0 nG, ⟨mA a many, [], allW⟩⟩ (chK [(2, .ptr 0 0), (3, .ptr 1 0), (4, .ptr 2 0), (5, .ptr 3 0)] nG (mD a many A xs c) [] .normal)) := fun r => ev_eq [] (chR [(2, .ptr 0 0), (3, .ptr 1 0), (4, .ptr 2 0), (5, .ptr 3 0)] nG (mD a many A xs c) []) (by kernel_rfl) trivial
theorem st_d (a : BitVec 256) (many : Int) (A : Option Addr) (xs : List Nat) (c : Nat) : ∀ r, Is (evCs (EG A xs) 60 (takeSeq 1 s2) ⟨pat [(2, .ptr 0 0), (3, .ptr 1 0), (4, .ptr 2 0), (5, .ptr 3 0)] r 0 nG, ⟨mD a many A xs c, [], allW⟩⟩ (chK [(2, .ptr 0 0), (3, .ptr 1 0), (4, .ptr 2 0), (5, .ptr 3 0), (6, .int .i64 true 0)] nG (mD a many A xs c) [])) := fun r => ev_eq [] (chR [(2, .ptr 0 0), (3, .ptr 1 0), (4, .ptr 2 0), (5, .ptr 3 0), (6, .int .i64 true 0)] nG (mD a many A xs c) []) (by kernel_rfl) trivial
theorem st_e1 (a : BitVec 256) (many : Int) (A : Option Addr) (xs : List Nat) (c : Nat) (h : AllE [(decide ((↑(RowI.n (rowN A xs)) : Int) > 0), true), (decide (0 ≤ IntKind.wrap IntKind.i64 ((↑(RowI.n (rowN A xs)) : Int) - 1) ∧ IntKind.wrap IntKind.i64 ((↑(RowI.n (rowN A xs)) : Int) - 1) < (↑(RowI.n (rowN A xs)) : Int)), true)]) : ∀ r, Is (evT (EG A xs) 60 (.code (sL s3)) ⟨pat [(2, .ptr 0 0), (3, .ptr 1 0), (4, .ptr 2 0), (5, .ptr 3 0), (6, .int .i64 true 0)] r 0 nG, ⟨mD a many A xs c, [true], allW⟩⟩ (chE .normal [(2, .ptr 0 0), (3, .ptr 1 0), (4, .ptr 2 0), (5, .ptr 3 0), (6, .int .i64 false (IntKind.wrap IntKind.i64 ((↑(List.getD xs (Int.toNat (IntKind.wrap IntKind.i64 ((↑(RowI.n (rowN A xs)) : Int) - 1))) 0) : Int) + 1)))] nG (mD a many A xs c) [])) := fun r => ev_eq [(decide ((↑(RowI.n (rowN A xs)) : Int) > 0), true), (decide (0 ≤ IntKind.wrap IntKind.i64 ((↑(RowI.n (rowN A xs)) : Int) - 1) ∧ IntKind.wrap IntKind.i64 ((↑(RowI.n (rowN A xs)) : Int) - 1) < (↑(RowI.n (rowN A xs)) : Int)), true)] (true, nG, ([(2, .ptr 0 0), (3, .ptr 1 0), (4, .ptr 2 0), (5, .ptr 3 0), (6, .int .i64 false (IntKind.wrap IntKind.i64 ((↑(List.getD xs (Int.toNat (IntKind.wrap IntKind.i64 ((↑(RowI.n (rowN A xs)) : Int) - 1))) 0) : Int) + 1)))] : List (Nat × AV)).map (fun p => some p.2), (mD a many A xs c : Mem), ([] : List Bool)) (by kernel_rfl) h
theorem st_e2 (a : BitVec 256) (many : Int) (A : Option Addr) (xs : List Nat) (c : Nat) (h : AllE [(decide ((↑(RowI.n (rowN A xs)) : Int) > 0), false)]) : ∀ r, Is (evT (EG A xs) 60 (.code (sL s3)) ⟨pat [(2, .ptr 0 0), (3, .ptr 1 0), (4, .ptr 2 0), (5, .ptr 3 0), (6, .int .i64 true 0)] r 0 nG, ⟨mD a many A xs c, [false], allW⟩⟩ (chE .normal [(2, .ptr 0 0), (3, .ptr 1 0), (4, .ptr 2 0), (5, .ptr 3 0), (6, .int .i64 true 0)] nG (mD a many A xs c) [])) := fun r => ev_eq [(decide ((↑(RowI.n (rowN A xs)) : Int) > 0), false)] (true, nG, ([(2, .ptr 0 0), (3, .ptr 1 0), (4, .ptr 2 0), (5, .ptr 3 0), (6, .int .i64 true 0)] : List (Nat × AV)).map (fun p => some p.2), (mD a many A xs c : Mem), ([] : List Bool)) (by kernel_rfl) h
theorem st_f (a : BitVec 256) (many : Int) (A : Option Addr) (xs : List Nat) (c : Nat) (nn : Int) : ∀ r, Is (evCs (EG A xs) 60 (takeSeq 1 s4) ⟨pat [(2, .ptr 0 0), (3, .ptr 1 0), (4, .ptr 2 0), (5, .ptr 3 0), (6, .int .i64 false nn)] r 0 nG, ⟨mD a many A xs c, [], allW⟩⟩ (chK [(2, .ptr 0 0), (3, .ptr 1 0), (4, .ptr 2 0), (5, .ptr 3 0), (6, .int .i64 false nn), (7, .func (.func 41) [.ptr 4 0])] nG (mB a many A xs c) [])) := fun r => ev_eq [] (chR [(2, .ptr 0 0), (3, .ptr 1 0), (4, .ptr 2 0), (5, .ptr 3 0), (6, .int .i64 false nn), (7, .func (.func 41) [.ptr 4 0])] nG (mB a many A xs c) []) (by kernel_rfl) trivial
theorem st_g (a : BitVec 256) (many : Int) (A : Option Addr) (xs : List Nat) (c : Nat) (nn : Int) (h : AllE [((↑(lenN (BitVec.toNat (re a))) : Int) != nn, false)]) : ∀ r, Is (evT (EG A xs) 60 (.code (sL s5)) ⟨pat [(2, .ptr 0 0), (3, .ptr 1 0), (4, .ptr 2 0), (5, .ptr 3 0), (6, .int .i64 false nn), (7, .func (.func 41) [.ptr 4 0])] r 0 nG, ⟨mB a many A xs c, [false], allW⟩⟩ (chE .normal [(2, .ptr 0 0), (3, .ptr 1 0), (4, .ptr 2 0), (5, .ptr 3 0), (7, .func (.func 41) [.ptr 4 0])] nG (mB a many A xs c) [])) := fun r => ev_eq [((↑(lenN (BitVec.toNat (re a))) : Int) != nn, false)] (true, nG, ([(2, .ptr 0 0), (3, .ptr 1 0), (4, .ptr 2 0), (5, .ptr 3 0), (7, .func (.func 41) [.ptr 4 0])] : List (Nat × AV)).map (fun p => some p.2), (mB a many A xs c : Mem), ([] : List Bool)) (by kernel_rfl) h
theorem st_h (a : BitVec 256) (many : Int) (A : Option Addr) (xs : List Nat) (c : Nat) : ∀ r, Is (evCs (EG A xs) 60 (takeSeq 1 (sL s6)) ⟨pat [(2, .ptr 0 0), (3, .ptr 1 0), (4, .ptr 2 0), (5, .ptr 3 0), (7, .func (.func 41) [.ptr 4 0])] r 0 nG, ⟨mB a many A xs c, [], allW⟩⟩ (chK [(2, .ptr 0 0), (3, .ptr 1 0), (4, .ptr 2 0), (5, .ptr 3 0), (7, .func (.func 41) [.ptr 4 0]), (8, .ptr 5 0)] nG (mB a many A xs c ++ [AIt.cells [.int .i64 true 0] 3]) [])) := fun r => ev_eq [] (chR [(2, .ptr 0 0), (3, .ptr 1 0), (4, .ptr 2 0), (5, .ptr 3 0), (7, .func (.func 41) [.ptr 4 0]), (8, .ptr 5 0)] nG (mB a many A xs c ++ [AIt.cells [.int .i64 true 0] 3]) []) (by kernel_rfl) trivial
theorem st_f0 (a : BitVec 256) (many : Int) (A : Option Addr) (xs : List Nat) (c : Nat) : ∀ r, Is (evCs (EG A xs) 60 (takeSeq 1 sB) ⟨pat [(2, .ptr 0 0), (3, .ptr 1 0), (4, .ptr 2 0), (5, .ptr 3 0), (7, .func (.func 41) [.ptr 4 0]), (8, .ptr 5 0)] r 0 nG, ⟨mB a many A xs c ++ [AIt.cells [.int .i64 true 0] 3], [], allW⟩⟩ (chK [(2, .ptr 0 0), (3, .ptr 1 0), (4, .ptr 2 0), (5, .ptr 3 0), (7, .func (.func 41) [.ptr 4 0]), (8, .ptr 5 0)] nG (mB a many A xs c ++ [AIt.cells [.int .i64 true 0] 3]) [])) := fun r => ev_eq [] (chR [(2, .ptr 0 0), (3, .ptr 1 0), (4, .ptr 2 0), (5, .ptr 3 0), (7, .func (.func 41) [.ptr 4 0]), (8, .ptr 5 0)] nG (mB a many A xs c ++ [AIt.cells [.int .i64 true 0] 3]) []) (by kernel_rfl) trivial
theorem st_g0 (a : BitVec 256) (many : Int) (A : Option Addr) (xs : List Nat) (c : Nat) : ∀ r, Is (evCs (EG A xs) 60 (takeSeq 1 sX) ⟨pat [(2, .ptr 0 0), (3, .ptr 1 0), (4, .ptr 2 0), (5, .ptr 3 0), (7, .func (.func 41) [.ptr 4 0]), (8, .ptr 5 0)] r 0 nG, ⟨mB a many A xs c ++ [AIt.cells [.int .i64 true 0] 3], [], allW⟩⟩ (chK [(2, .ptr 0 0), (3, .ptr 1 0), (4, .ptr 2 0), (5, .ptr 3 0), (7, .func (.func 41) [.ptr 4 0]), (8, .ptr 5 0), (9, .ptr 6 0)] nG (mB a many A xs c ++ [AIt.cells [.int .i64 true 0] 3, AIt.cells [.int .i64 true 0] 3]) [])) := fun r => ev_eq [] (chR [(2, .ptr 0 0), (3, .ptr 1 0), (4, .ptr 2 0), (5, .ptr 3 0), (7, .func (.func 41) [.ptr 4 0]), (8, .ptr 5 0), (9, .ptr 6 0)] nG (mB a many A xs c ++ [AIt.cells [.int .i64 true 0] 3, AIt.cells [.int .i64 true 0] 3]) []) (by kernel_rfl) trivial
theorem st_h0 (a : BitVec 256) (many : Int) (A : Option Addr) (xs : List Nat) (c : Nat) : ∀ r, Is (evCs (EG A xs) 60 (takeSeq 1 (sL sX1)) ⟨pat [(2, .ptr 0 0), (3, .ptr 1 0), (4, .ptr 2 0), (5, .ptr 3 0), (7, .func (.func 41) [.ptr 4 0]), (8, .ptr 5 0), (9, .ptr 6 0)] r 0 nG, ⟨mB a many A xs c ++ [AIt.cells [.int .i64 true 0] 3, AIt.cells [.int .i64 true 0] 3], [], allW⟩⟩ (chK [(2, .ptr 0 0), (3, .ptr 1 0), (4, .ptr 2 0), (5, .ptr 3 0), (7, .func (.func 41) [.ptr 4 0]), (8, .ptr 5 0), (9, .ptr 6 0), (37, .func (.func 41) [.ptr 4 0])] nG (mB a many A xs c ++ [AIt.cells [.int .i64 true 0] 3, AIt.cells [.int .i64 true 0] 3]) [])) := fun r => ev_eq [] (chR [(2, .ptr 0 0), (3, .ptr 1 0), (4, .ptr 2 0), (5, .ptr 3 0), (7, .func (.func 41) [.ptr 4 0]), (8, .ptr 5 0), (9, .ptr 6 0), (37, .func (.func 41) [.ptr 4 0])] nG (mB a many A xs c ++ [AIt.cells [.int .i64 true 0] 3, AIt.cells [.int .i64 true 0] 3]) []) (by kernel_rfl) trivial
theorem st_r0t (a : BitVec 256) (many : Int) (A : Option Addr) (xs : List Nat) (c : Nat) (v : Int) (x : Nat) (h : AllE [(decide (v ≥ (↑(RowI.n (rowN A xs)) : Int)), false), (decide (0 ≤ v ∧ v < (↑(RowI.n (rowN A xs)) : Int)), true), ((↑(List.getD xs (Int.toNat v) 0) : Int) != (↑x : Int), false), (decide (IntKind.wrap IntKind.i64 (v + 1) ≥ many), true)]) (r : Nat → Value) : Is (evR (EG A xs) 60 7 (rgA sRg) (rgB sRg) ⟨setps (pat [(2, .ptr 0 0), (3, .ptr 1 0), (4, .ptr 2 0), (5, .ptr 3 0), (7, .func (.func 41) [.ptr 4 0]), (8, .ptr 5 0), (9, .ptr 6 0), (37, .func (.func 41) [.ptr 4 0])] r 0 nG) (rgP sRg).toList [.int .i64 true (x : Int)], ⟨mB a many A xs c ++ [AIt.cells [.int .i64 true 0] 3, AIt.cells [.int .i64 false v] 3], [false, false, true], fun l => allW l && !memN l [4]⟩⟩ (rndK true (rgI sRg) 7 (mB a many A xs c ++ [AIt.cells [.int .i64 true 0] 3, AIt.cells [.int .i64 false (IntKind.i64.wrap (v + 1))] 3]))) :=
  ev_eq [(decide (v ≥ (↑(RowI.n (rowN A xs)) : Int)), false), (decide (0 ≤ v ∧ v < (↑(RowI.n (rowN A xs)) : Int)), true), ((↑(List.getD xs (Int.toNat v) 0) : Int) != (↑x : Int), false), (decide (IntKind.wrap IntKind.i64 (v + 1) ≥ many), true)] (rndR true (mB a many A xs c ++ [AIt.cells [.int .i64 true 0] 3, AIt.cells [.int .i64 false (IntKind.i64.wrap (v + 1))] 3])) (by kernel_rfl) h
theorem st_r0f (a : BitVec 256) (many : Int) (A : Option Addr) (xs : List Nat) (c : Nat) (v : Int) (x : Nat) (h : AllE [(decide (v ≥ (↑(RowI.n (rowN A xs)) : Int)), false), (decide (0 ≤ v ∧ v < (↑(RowI.n (rowN A xs)) : Int)), true), ((↑(List.getD xs (Int.toNat v) 0) : Int) != (↑x : Int), false), (decide (IntKind.wrap IntKind.i64 (v + 1) ≥ many), false)]) (r : Nat → Value) : Is (evR (EG A xs) 60 7 (rgA sRg) (rgB sRg) ⟨setps (pat [(2, .ptr 0 0), (3, .ptr 1 0), (4, .ptr 2 0), (5, .ptr 3 0), (7, .func (.func 41) [.ptr 4 0]), (8, .ptr 5 0), (9, .ptr 6 0), (37, .func (.func 41) [.ptr 4 0])] r 0 nG) (rgP sRg).toList [.int .i64 true (x : Int)], ⟨mB a many A xs c ++ [AIt.cells [.int .i64 true 0] 3, AIt.cells [.int .i64 false v] 3], [false, false, false], fun l => allW l && !memN l [4]⟩⟩ (rndK false (rgI sRg) 7 (mB a many A xs c ++ [AIt.cells [.int .i64 true 0] 3, AIt.cells [.int .i64 false (IntKind.i64.wrap (v + 1))] 3]))) :=
  ev_eq [(decide (v ≥ (↑(RowI.n (rowN A xs)) : Int)), false), (decide (0 ≤ v ∧ v < (↑(RowI.n (rowN A xs)) : Int)), true), ((↑(List.getD xs (Int.toNat v) 0) : Int) != (↑x : Int), false), (decide (IntKind.wrap IntKind.i64 (v + 1) ≥ many), false)] (rndR false (mB a many A xs c ++ [AIt.cells [.int .i64 true 0] 3, AIt.cells [.int .i64 false (IntKind.i64.wrap (v + 1))] 3])) (by kernel_rfl) h
theorem st_i0 (a : BitVec 256) (many : Int) (A : Option Addr) (xs : List Nat) (c : Nat) (u : Int) (h : AllE [(u != (if (if many > 1 then many else 1) < (xs.length : Int) then (if many > 1 then many else 1) else (xs.length : Int)), false)]) : ∀ r, Is (evT (EG A xs) 60 (.code (sR sX1)) ⟨pat [(2, .ptr 0 0), (3, .ptr 1 0), (4, .ptr 2 0), (5, .ptr 3 0), (7, .func (.func 41) [.ptr 4 0]), (8, .ptr 5 0), (9, .ptr 6 0), (37, .func (.func 41) [.ptr 4 0])] r 0 nG, ⟨mB a many A xs c ++ [AIt.cells [.int .i64 true 0] 3, AIt.cells [.int .i64 false u] 3], [false], allW⟩⟩ (chE .normal [(2, .ptr 0 0), (3, .ptr 1 0), (4, .ptr 2 0), (5, .ptr 3 0), (7, .func (.func 41) [.ptr 4 0]), (8, .ptr 5 0), (9, .ptr 6 0)] nG (mB a many A xs c ++ [AIt.cells [.int .i64 true 0] 3, AIt.cells [.int .i64 false u] 3]) [])) := fun r => ev_eq [(u != (if (if many > 1 then many else 1) < (xs.length : Int) then (if many > 1 then many else 1) else (xs.length : Int)), false)] (true, nG, ([(2, .ptr 0 0), (3, .ptr 1 0), (4, .ptr 2 0), (5, .ptr 3 0), (7, .func (.func 41) [.ptr 4 0]), (8, .ptr 5 0), (9, .ptr 6 0)] : List (Nat × AV)).map (fun p => some p.2), (mB a many A xs c ++ [AIt.cells [.int .i64 true 0] 3, AIt.cells [.int .i64 false u] 3] : Mem), ([] : List Bool)) (by kernel_rfl) h
theorem st_j0 (a : BitVec 256) (many : Int) (A : Option Addr) (xs : List Nat) (c : Nat) (u : Int) : ∀ r, Is (evT (EG A xs) 60 (.code (sR sB1)) ⟨pat [(2, .ptr 0 0), (3, .ptr 1 0), (4, .ptr 2 0), (5, .ptr 3 0), (7, .func (.func 41) [.ptr 4 0]), (8, .ptr 5 0), (9, .ptr 6 0)] r 0 nG, ⟨mB a many A xs c ++ [AIt.cells [.int .i64 true 0] 3, AIt.cells [.int .i64 false u] 3], [], allW⟩⟩ (chE .normal [(2, .ptr 0 0), (3, .ptr 1 0), (4, .ptr 2 0), (5, .ptr 3 0), (7, .func (.func 41) [.ptr 4 0]), (8, .ptr 7 0)] nG (mB a many A xs c ++ [AIt.cells [.int .i64 true 0] 3, AIt.cells [.int .i64 false u] 3, AIt.cells [.int .i64 true 1] 3]) [])) := fun r => ev_eq [] (true, nG, ([(2, .ptr 0 0), (3, .ptr 1 0), (4, .ptr 2 0), (5, .ptr 3 0), (7, .func (.func 41) [.ptr 4 0]), (8, .ptr 7 0)] : List (Nat × AV)).map (fun p => some p.2), (mB a many A xs c ++ [AIt.cells [.int .i64 true 0] 3, AIt.cells [.int .i64 false u] 3, AIt.cells [.int .i64 true 1] 3] : Mem), ([] : List Bool)) (by kernel_rfl) trivial
theorem st_f1 (a : BitVec 256) (many : Int) (A : Option Addr) (xs : List Nat) (c : Nat) (u : Int) : ∀ r, Is (evCs (EG A xs) 60 (takeSeq 1 sB) ⟨pat [(2, .ptr 0 0), (3, .ptr 1 0), (4, .ptr 2 0), (5, .ptr 3 0), (7, .func (.func 41) [.ptr 4 0]), (8, .ptr 7 0)] r 0 nG, ⟨mB a many A xs c ++ [AIt.cells [.int .i64 true 0] 3, AIt.cells [.int .i64 false u] 3, AIt.cells [.int .i64 true 1] 3], [], allW⟩⟩ (chK [(2, .ptr 0 0), (3, .ptr 1 0), (4, .ptr 2 0), (5, .ptr 3 0), (7, .func (.func 41) [.ptr 4 0]), (8, .ptr 7 0)] nG (mB a many A xs c ++ [AIt.cells [.int .i64 true 0] 3, AIt.cells [.int .i64 false u] 3, AIt.cells [.int .i64 true 1] 3]) [])) := fun r => ev_eq [] (chR [(2, .ptr 0 0), (3, .ptr 1 0), (4, .ptr 2 0), (5, .ptr 3 0), (7, .func (.func 41) [.ptr 4 0]), (8, .ptr 7 0)] nG (mB a many A xs c ++ [AIt.cells [.int .i64 true 0] 3, AIt.cells [.int .i64 false u] 3, AIt.cells [.int .i64 true 1] 3]) []) (by kernel_rfl) trivial
theorem st_g1 (a : BitVec 256) (many : Int) (A : Option Addr) (xs : List Nat) (c : Nat) (u : Int) : ∀ r, Is (evCs (EG A xs) 60 (takeSeq 1 sX) ⟨pat [(2, .ptr 0 0), (3, .ptr 1 0), (4, .ptr 2 0), (5, .ptr 3 0), (7, .func (.func 41) [.ptr 4 0]), (8, .ptr 7 0)] r 0 nG, ⟨mB a many A xs c ++ [AIt.cells [.int .i64 true 0] 3, AIt.cells [.int .i64 false u] 3, AIt.cells [.int .i64 true 1] 3], [], allW⟩⟩ (chK [(2, .ptr 0 0), (3, .ptr 1 0), (4, .ptr 2 0), (5, .ptr 3 0), (7, .func (.func 41) [.ptr 4 0]), (8, .ptr 7 0), (9, .ptr 8 0)] nG (mB a many A xs c ++ [AIt.cells [.int .i64 true 0] 3, AIt.cells [.int .i64 false u] 3, AIt.cells [.int .i64 true 1] 3, AIt.cells [.int .i64 true 0] 3]) [])) := fun r => ev_eq [] (chR [(2, .ptr 0 0), (3, .ptr 1 0), (4, .ptr 2 0), (5, .ptr 3 0), (7, .func (.func 41) [.ptr 4 0]), (8, .ptr 7 0), (9, .ptr 8 0)] nG (mB a many A xs c ++ [AIt.cells [.int .i64 true 0] 3, AIt.cells [.int .i64 false u] 3, AIt.cells [.int .i64 true 1] 3, AIt.cells [.int .i64 true 0] 3]) []) (by kernel_rfl) trivial
theorem st_h1 (a : BitVec 256) (many : Int) (A : Option Addr) (xs : List Nat) (c : Nat) (u : Int) : ∀ r, Is (evCs (EG A xs) 60 (takeSeq 1 (sL sX1)) ⟨pat [(2, .ptr 0 0), (3, .ptr 1 0), (4, .ptr 2 0), (5, .ptr 3 0), (7, .func (.func 41) [.ptr 4 0]), (8, .ptr 7 0), (9, .ptr 8 0)] r 0 nG, ⟨mB a many A xs c ++ [AIt.cells [.int .i64 true 0] 3, AIt.cells [.int .i64 false u] 3, AIt.cells [.int .i64 true 1] 3, AIt.cells [.int .i64 true 0] 3], [], allW⟩⟩ (chK [(2, .ptr 0 0), (3, .ptr 1 0), (4, .ptr 2 0), (5, .ptr 3 0), (7, .func (.func 41) [.ptr 4 0]), (8, .ptr 7 0), (9, .ptr 8 0), (37, .func (.func 41) [.ptr 4 0])] nG (mB a many A xs c ++ [AIt.cells [.int .i64 true 0] 3, AIt.cells [.int .i64 false u] 3, AIt.cells [.int .i64 true 1] 3, AIt.cells [.int .i64 true 0] 3]) [])) := fun r => ev_eq [] (chR [(2, .ptr 0 0), (3, .ptr 1 0), (4, .ptr 2 0), (5, .ptr 3 0), (7, .func (.func 41) [.ptr 4 0]), (8, .ptr 7 0), (9, .ptr 8 0), (37, .func (.func 41) [.ptr 4 0])] nG (mB a many A xs c ++ [AIt.cells [.int .i64 true 0] 3, AIt.cells [.int .i64 false u] 3, AIt.cells [.int .i64 true 1] 3, AIt.cells [.int .i64 true 0] 3]) []) (by kernel_rfl) trivial
theorem st_r1 (a : BitVec 256) (many : Int) (A : Option Addr) (xs : List Nat) (c : Nat) (v : Int) (u : Int) (x : Nat) (h : AllE [(decide (v ≥ (↑(RowI.n (rowN A xs)) : Int)), false), (decide (0 ≤ v ∧ v < (↑(RowI.n (rowN A xs)) : Int)), true), ((↑(List.getD xs (Int.toNat v) 0) : Int) != (↑x : Int), false)]) (r : Nat → Value) : Is (evR (EG A xs) 60 9 (rgA sRg) (rgB sRg) ⟨setps (pat [(2, .ptr 0 0), (3, .ptr 1 0), (4, .ptr 2 0), (5, .ptr 3 0), (7, .func (.func 41) [.ptr 4 0]), (8, .ptr 7 0), (9, .ptr 8 0), (37, .func (.func 41) [.ptr 4 0])] r 0 nG) (rgP sRg).toList [.int .i64 true (x : Int)], ⟨mB a many A xs c ++ [AIt.cells [.int .i64 true 0] 3, AIt.cells [.int .i64 false u] 3, AIt.cells [.int .i64 true 1] 3, AIt.cells [.int .i64 false v] 3], [false, false], fun l => allW l && !memN l [4]⟩⟩ (rndK false (rgI sRg) 9 (mB a many A xs c ++ [AIt.cells [.int .i64 true 0] 3, AIt.cells [.int .i64 false u] 3, AIt.cells [.int .i64 true 1] 3, AIt.cells [.int .i64 false (IntKind.i64.wrap (v + 1))] 3]))) :=
  ev_eq [(decide (v ≥ (↑(RowI.n (rowN A xs)) : Int)), false), (decide (0 ≤ v ∧ v < (↑(RowI.n (rowN A xs)) : Int)), true), ((↑(List.getD xs (Int.toNat v) 0) : Int) != (↑x : Int), false)] (rndR false (mB a many A xs c ++ [AIt.cells [.int .i64 true 0] 3, AIt.cells [.int .i64 false u] 3, AIt.cells [.int .i64 true 1] 3, AIt.cells [.int .i64 false (IntKind.i64.wrap (v + 1))] 3])) (by kernel_rfl) h
theorem st_i1 (a : BitVec 256) (many : Int) (A : Option Addr) (xs : List Nat) (c : Nat) (u t : Int) (h : AllE [(t != (xs.length : Int), false)]) : ∀ r, Is (evT (EG A xs) 60 (.code (sR sX1)) ⟨pat [(2, .ptr 0 0), (3, .ptr 1 0), (4, .ptr 2 0), (5, .ptr 3 0), (7, .func (.func 41) [.ptr 4 0]), (8, .ptr 7 0), (9, .ptr 8 0), (37, .func (.func 41) [.ptr 4 0])] r 0 nG, ⟨mB a many A xs c ++ [AIt.cells [.int .i64 true 0] 3, AIt.cells [.int .i64 false u] 3, AIt.cells [.int .i64 true 1] 3, AIt.cells [.int .i64 false t] 3], [false], allW⟩⟩ (chE .normal [(2, .ptr 0 0), (3, .ptr 1 0), (4, .ptr 2 0), (5, .ptr 3 0), (7, .func (.func 41) [.ptr 4 0]), (8, .ptr 7 0), (9, .ptr 8 0)] nG (mB a many A xs c ++ [AIt.cells [.int .i64 true 0] 3, AIt.cells [.int .i64 false u] 3, AIt.cells [.int .i64 true 1] 3, AIt.cells [.int .i64 false t] 3]) [])) := fun r => ev_eq [(t != (xs.length : Int), false)] (true, nG, ([(2, .ptr 0 0), (3, .ptr 1 0), (4, .ptr 2 0), (5, .ptr 3 0), (7, .func (.func 41) [.ptr 4 0]), (8, .ptr 7 0), (9, .ptr 8 0)] : List (Nat × AV)).map (fun p => some p.2), (mB a many A xs c ++ [AIt.cells [.int .i64 true 0] 3, AIt.cells [.int .i64 false u] 3, AIt.cells [.int .i64 true 1] 3, AIt.cells [.int .i64 false t] 3] : Mem), ([] : List Bool)) (by kernel_rfl) h
theorem st_j1 (a : BitVec 256) (many : Int) (A : Option Addr) (xs : List Nat) (c : Nat) (u t : Int) : ∀ r, Is (evT (EG A xs) 60 (.code (sR sB1)) ⟨pat [(2, .ptr 0 0), (3, .ptr 1 0), (4, .ptr 2 0), (5, .ptr 3 0), (7, .func (.func 41) [.ptr 4 0]), (8, .ptr 7 0), (9, .ptr 8 0)] r 0 nG, ⟨mB a many A xs c ++ [AIt.cells [.int .i64 true 0] 3, AIt.cells [.int .i64 false u] 3, AIt.cells [.int .i64 true 1] 3, AIt.cells [.int .i64 false t] 3], [], allW⟩⟩ (chE .normal [(2, .ptr 0 0), (3, .ptr 1 0), (4, .ptr 2 0), (5, .ptr 3 0), (7, .func (.func 41) [.ptr 4 0]), (8, .ptr 9 0)] nG (mB a many A xs c ++ [AIt.cells [.int .i64 true 0] 3, AIt.cells [.int .i64 false u] 3, AIt.cells [.int .i64 true 1] 3, AIt.cells [.int .i64 false t] 3, AIt.cells [.int .i64 true 2] 3]) [])) := fun r => ev_eq [] (true, nG, ([(2, .ptr 0 0), (3, .ptr 1 0), (4, .ptr 2 0), (5, .ptr 3 0), (7, .func (.func 41) [.ptr 4 0]), (8, .ptr 9 0)] : List (Nat × AV)).map (fun p => some p.2), (mB a many A xs c ++ [AIt.cells [.int .i64 true 0] 3, AIt.cells [.int .i64 false u] 3, AIt.cells [.int .i64 true 1] 3, AIt.cells [.int .i64 false t] 3, AIt.cells [.int .i64 true 2] 3] : Mem), ([] : List Bool)) (by kernel_rfl) trivial
theorem st_k (a : BitVec 256) (many : Int) (A : Option Addr) (xs : List Nat) (c : Nat) (u t : Int) : ∀ r, Is (evT (EG A xs) 60 (.code sB) ⟨pat [(2, .ptr 0 0), (3, .ptr 1 0), (4, .ptr 2 0), (5, .ptr 3 0), (7, .func (.func 41) [.ptr 4 0]), (8, .ptr 9 0)] r 0 nG, ⟨mB a many A xs c ++ [AIt.cells [.int .i64 true 0] 3, AIt.cells [.int .i64 false u] 3, AIt.cells [.int .i64 true 1] 3, AIt.cells [.int .i64 false t] 3, AIt.cells [.int .i64 true 2] 3], [], allW⟩⟩ (chE (.exit 0) [(2, .ptr 0 0), (3, .ptr 1 0), (4, .ptr 2 0), (5, .ptr 3 0), (7, .func (.func 41) [.ptr 4 0]), (8, .ptr 9 0)] nG (mB a many A xs c ++ [AIt.cells [.int .i64 true 0] 3, AIt.cells [.int .i64 false u] 3, AIt.cells [.int .i64 true 1] 3, AIt.cells [.int .i64 false t] 3, AIt.cells [.int .i64 true 2] 3]) [])) := fun r => ev_eq [] (true, nG, ([(2, .ptr 0 0), (3, .ptr 1 0), (4, .ptr 2 0), (5, .ptr 3 0), (7, .func (.func 41) [.ptr 4 0]), (8, .ptr 9 0)] : List (Nat × AV)).map (fun p => some p.2), (mB a many A xs c ++ [AIt.cells [.int .i64 true 0] 3, AIt.cells [.int .i64 false u] 3, AIt.cells [.int .i64 true 1] 3, AIt.cells [.int .i64 false t] 3, AIt.cells [.int .i64 true 2] 3] : Mem), ([] : List Bool)) (by kernel_rfl) trivial
theorem st_z (a : BitVec 256) (many : Int) (A : Option Addr) (xs : List Nat) (c : Nat) (u t : Int) : ∀ rs, Is (evT (EG A xs) 60 (.code (sR s6)) ⟨pat [(2, .ptr 0 0), (3, .ptr 1 0), (4, .ptr 2 0), (5, .ptr 3 0), (7, .func (.func 41) [.ptr 4 0]), (8, .ptr 9 0)] rs 0 nG, ⟨mB a many A xs c ++ [AIt.cells [.int .i64 true 0] 3, AIt.cells [.int .i64 false u] 3, AIt.cells [.int .i64 true 1] 3, AIt.cells [.int .i64 false t] 3, AIt.cells [.int .i64 true 2] 3], [], allW⟩⟩ (retK (EG A xs) Tryd.f5 (.bool true true))) := fun rs => ev_eq [] (some [AV.bool true true]) (by kernel_rfl) trivial
end

section
theorem bitsUp_bitsL (a : BitVec 256) : bitsUp a 256 = bitsL a := by
  have e : List.range 256 = (List.range 4).flatMap fun i => (List.range 64).map (64 * i + ·) := by decide +kernel
  show (List.range 256).filter _ = (List.range 4).flatMap _
  rw [e, List.filter_flatMap]
  unfold List.flatMap
  congr 1
  refine List.map_congr_left fun i hi => ?_
  unfold onesAt ones
  rw [List.filter_map]
  congr 1
  refine List.filter_congr fun j hj => ?_
  rw [limb_bit, decide_eq_true (show j < 64 by simpa using hj), Bool.true_and]
  rfl
theorem bitsUp_over {a : BitVec 256} {m : Nat} (h : ∀ i, m < i → a.getLsbD i = false) : ∀ d, bitsUp a (m + 1 + d) = bitsUp a (m + 1)
  | 0 => rfl
  | d + 1 => by rw [← Nat.add_assoc, bitsUp_f (h _ (by omega)), bitsUp_over h d]
theorem bits_last {a : BitVec 256} (ha : a.toNat ≠ 0) : ∃ l m, bitsUp a 256 = l ++ [m] ∧ lenN a.toNat = m + 1 ∧ m < 256 := by
  have h1 := Nat.log2_self_le ha
  have h2 := Nat.lt_log2_self (n := a.toNat)
  have hm : a.toNat.log2 < 256 := (Nat.log2_lt ha).2 a.isLt
  generalize hk : a.toNat.log2 = m at *
  have hb : a.getLsbD m = true := by
    rw [BitVec.getLsbD, ← hk]; exact Nat.testBit_log2 ha
  have ho : ∀ i, m < i → a.getLsbD i = false := fun i hi => by
    rw [BitVec.getLsbD]
    exact Nat.testBit_lt_two_pow (Nat.lt_of_lt_of_le h2 (Nat.pow_le_pow_right (by omega) hi))
  refine ⟨bitsUp a m, m, ?_, by unfold lenN; rw [if_neg ha, hk], hm⟩
  have := bitsUp_over ho (255 - m)
  rw [show m + 1 + (255 - m) = 256 by omega] at this
  rw [this, bitsUp_t hb]
theorem bits_zero {a : BitVec 256} (ha : a.toNat = 0) : bitsUp a 256 = [] := by
  have : a = 0#256 := BitVec.eq_of_toNat_eq (by simpa using ha)
  subst this
  decide +kernel
theorem rowN_pos {A : Option Addr} {xs : List Nat} : ∀ j r, (EG A xs).rows j = some r → 0 < r.n → 0 < (r.V 0).length := fun j r h _ => by
  have h : (bif Nat.beq j 1 then some tabRow else rows1 (rowN A xs) j) = some r := h
  cases hb : Nat.beq j 1 <;> simp only [hb, cond_true, cond_false] at h
  · obtain ⟨_, rfl⟩ := rows1_inv h; exact Nat.one_pos
  · cases h; exact Nat.one_pos
theorem rowsT_free {R : Rws} {nb : List Nat} {w : World} (h : Rd (rowsT R) nb w) : 0 < w.heap.size ∧ 0 ∉ nb := by
  obtain ⟨h1, h2, _⟩ := h 1 tabRow rfl 0 0 rfl (by decide)
  exact ⟨h2, h1⟩
theorem seqG {R : Rws} {D : List Deferred} {live : List (Nat × AV)} {n : Nat} {ds : List Bool} {wr : Nat → Bool} {ac : Act} (Hr : List RBlk) (w : World) (a : BitVec 256) {H : Mem} (hl : H[4]? = some (.cells (wC a) 24)) (hv : liveB H = true) (ho : ownB ((AIt.cells (wC a) 24).owner 4) [4] 0 H = true) (hP : PatSt (rowsT R) D live n ⟨H, ds, wr⟩ ac Hr) (hO : OwnK (rowsT R) H Hr w) (lb : List Value) (hlb : RelL (rowsT R) (nums Hr) [.ptr 4 0] lb) : Seq Tryd.prog 41 lb.toArray encN (bitsL a) (Sfz [4] Hr w) w := by
  obtain ⟨rs, vs, _, _, hBl, hnd⟩ := hP
  obtain ⟨q1, n1, hb1⟩ := blk_of hBl hO.1 (l := 4) hl (vals_wC a)
  cases hlb with | cons h1 h2 =>
  cases h2
  obtain ⟨q2, m1, rfl⟩ := rel_ptr h1
  obtain rfl := Option.some.inj (n1.symm.trans m1)
  obtain ⟨hz, h0⟩ := rowsT_free hO.2
  obtain ⟨p1, hp1, rfl⟩ := nums_at n1
  have hph := hBl.cph (l := 4) hl hp1
  refine each1_seq _ a w (Sfz [4] Hr w) hb1 (sfz_of hBl hnd hO.1 hv (l := 4) hl hp1 hph ho) (fun e => ?_) (rowsT_tab hO.2) ⟨hz, fun l q hq hp hb => ?_⟩
  · exact h0 (mem_bs.2 ⟨_, List.mem_of_getElem? n1, hph, e⟩)
  · exact absurd (mem_bs.2 ⟨q, List.mem_of_getElem? hq, hp, hb⟩) h0
theorem row_nats {w' : World} {base : Nat} {v : Value} {xs : List Nat} {nb : List Nat} (h : w'.ownsRow base 3 1 v xs.length (natV xs)) (hnb : ∀ b ∈ nb, b < base) : ∃ A c, v = .slice A xs.length c ∧ xs.length ≤ c ∧ (0 < xs.length → ∃ b off, A = some ⟨b, off, none⟩) ∧ Rd (rows1 (rowN A xs)) nb w' := by
  obtain ⟨hl, h | ⟨g, cap, cur, rfl, hg, hh, h1, h2, h3, h4⟩⟩ := h
  · obtain ⟨rfl, h0⟩ := h
    refine ⟨none, 0, by rw [h0], by omega, fun h => absurd h (by omega), fun j r hj b off ha hn => ?_⟩
    obtain ⟨_, rfl⟩ := rows1_inv hj
    cases ha
  · refine ⟨some ⟨g, 0, none⟩, cap, rfl, h1, fun _ => ⟨g, 0, rfl⟩, fun j r hj b off ha hn => ?_⟩
    obtain ⟨_, rfl⟩ := rows1_inv hj
    cases ha
    refine ⟨fun hm => by have := hnb g hm; omega, (Array.getElem?_eq_some_iff.1 hh).1, fun i hi q u hu => ?_⟩
    have hi : i < xs.length := hi
    have hq : q < 1 := by
      have := (List.getElem?_eq_some_iff.1 hu).1
      simpa [rowN] using this
    obtain rfl : q = 0 := by omega
    have hu : some (Value.int .i64 ((xs.getD i 0 : Nat) : Int)) = some u := hu
    have hw : (natV xs)[i]? = some u := by
      rw [← hu]; simp [natV, List.getD, List.getElem?_eq_getElem hi]
    have hc : cur[0 + i * 1 + 0]? = some u := by
      rw [← h4, List.getElem?_take] at hw
      split at hw
      · simpa using hw
      · cases hw
    have hB : Blk w' g cur 3 := hh
    have := hB.cell (0 + i * 1 + 0)
    rw [hc] at this
    exact this
set_option maxHeartbeats 8000000 in
theorem each_law (a : BitVec 256) (many : Int) (w : World) (hT : TabTz 0 w) : Calls Tryd.prog 5 #[W a, .int .i64 many] w fun e w' => e = .returned (.bool true) ∧ Below w.heap.size w w' := by
  refine ev_enter (E := EL3) (fn := Tryd.f5) (c := cG) Tryd.func5 (by kernel_rfl) (args := [wA a, .int .i64 false many]) (Args := [W a, .int .i64 many]) (show 2 ≤ nG by decide) (.cons (rel_wA _ a) (.cons .int .nil)) (RT_rd hT (by simp)) (ds := []) (wr := allW) fun a0 hP hB => ?_
  refine ev_seqs EL3_ok 60 1 (st_a a many) hP hB fun a1 Hr1 w1 hP1 hB1 _ => ?_
  refine wp_parts (by kernel_rfl) (wp_reg (by kernel_rfl) ?_)
  refine ev_ops EL3_ok 60 1 (st_b a many) hP1 hB1 fun a2 Hr2 w2 hP2 hB2 _ => ?_
  refine ev_call (f := 19) (avs := [wA a]) (d := 12) (Post := fun V w' => w'.ownsRow w2.heap.size 3 1 V (bitsUp a 256).length (natV (bitsUp a 256))) (fun _ => by kernel_rfl) (show 12 < nG by decide) (by kernel_rfl) (enters_of Tryd.func19 (by kernel_rfl) rfl) hP2 hB2 ?_ ?_
  · intro Args hArgs
    cases hArgs with | cons h1 h2 =>
    cases h2
    rw [h1.told (told_wA a)]
    exact (refEach_any a w2).mono fun e w' ⟨v, h1, h2, h3⟩ => ⟨v, h1, h3, h2⟩
  intro V a3 w3 hV hbv hP3 hB3
  obtain ⟨A, c, rfl, hnc, hA, hRd⟩ := row_nats (nb := bs (nums Hr2)) hV (fun bl hbl => by
    obtain ⟨q, hq, hph, rfl⟩ := mem_bs.1 hbl
    obtain ⟨l, hl, rfl⟩ := List.mem_iff_getElem.1 hq
    have hlen2 : Hr2.length = _ := (by obtain ⟨_, vs, _, _, h, _⟩ := hP2; exact h.1)
    exact nums_lt hB2.own.1 hlen2 (l := l) (by rw [List.getElem?_eq_getElem hl]) hph)
  have hlen := bitsUp_le a 256
  have hlast := fun h => bits_last (a := a) h
  have hzero := fun h => bits_zero (a := a) h
  have hbL := bitsUp_bitsL a
  clear hV
  obtain ⟨hz3, h03⟩ := RT_free hB3.own.2
  have hx0 : ∀ j r, EL3.rows j = some r → rowsT (rows1 (rowN A (bitsUp a 256))) j = some r := fun j r h => by
    have h : (bif Nat.beq j 1 then some tabRow else noRows j) = some r := h
    show (bif Nat.beq j 1 then some tabRow else rows1 (rowN A (bitsUp a 256)) j) = some r
    cases hb : Nat.beq j 1 <;> simp only [hb, cond_true, cond_false] at h ⊢
    · cases h
    · exact h
  have hP3' := (PatSt.rows (R2 := rowsT (rows1 (rowN A (bitsUp a 256)))) hx0 hP3).swap (v := .rsl 0 (rowN A (bitsUp a 256)).n c) (.rsl rfl hnc)
  have hB3' := hB3.rows (rowsT_rd hRd (rowsT_tab (R := noRows) hB3.own.2) h03)
  have hseq := fun Hr wx {ds} {D} {live} {n} {wr} {ac} {H : Mem} hl hv ho (hP : PatSt (rowsT (rows1 (rowN A (bitsUp a 256)))) D live n ⟨H, ds, wr⟩ ac Hr) hO lb hlb => seqG Hr wx a hl hv ho hP hO lb hlb
  rw [← hbL] at hseq
  have hRw := rowN_rw (A := A) (xs := bitsUp a 256) hA
  generalize hxs : bitsUp a 256 = xs at *
  have hE := EG_ok hRw
  refine ev_ops hE 60 2 (st_c a many A xs c) hP3' hB3' fun a4 Hr4 w4 hP4 hB4 _ => wpList_nil ?_
  refine ev_seqs hE 60 1 (st_d a many A xs c) hP4 hB4 fun a5 Hr5 w5 hP5 hB5 _ => ?_
  have hn : ∀ (K : Prop), (∀ (nn : Int), (((lenN a.toNat : Nat) : Int) != nn) = false → (∀ Q, (∀ a' Hr' w', PatSt (rowsT (rows1 (rowN A xs))) (([] : List Nat).map markD) [(2, .ptr 0 0), (3, .ptr 1 0), (4, .ptr 2 0), (5, .ptr 3 0), (6, .int .i64 false nn)] nG ⟨mD a many A xs c, [], allW⟩ a' Hr' → Bun (rowsT (rows1 (rowN A xs))) [] w.heap.size w (mD a many A xs c) Hr' w' → Q Exit.normal a' w') → (sL s3).wp Tryd.prog Q a5 w5) → K) → K := by
    intro K hK
    by_cases h0 : a.toNat = 0
    · have hx : xs = [] := hzero h0
      refine hK 0 (by rw [h0]; rfl) fun Q hQ => ?_
      refine ev_codeE hE 60 .normal (st_e2 a many A xs c (allE_cons (decide_eq_false (by show ¬ ((xs.length : Int) > 0); rw [hx]; simp)) allE_nil)) hP5 hB5 fun a6 Hr6 w6 hP6 hB6 _ => hQ a6 Hr6 w6 ?_ hB6
      exact patSt_live (patSt_int (d := 6) (k := .i64) (l := true) (l' := false) (x := 0) hP6 (by kernel_rfl) (by decide) rfl) (looks_of (by rfl)) (by kernel_rfl)
    · obtain ⟨l, m, hx, hlm, hm⟩ := hlast h0
      have hle : xs.length = l.length + 1 := by rw [hx]; simp
      have hw : IntKind.wrap IntKind.i64 ((xs.length : Int) - 1) = (l.length : Int) := by rw [IntWalk.i64_in _ ⟨by omega, by omega⟩]; omega
      have hg : xs.getD (Int.toNat (l.length : Int)) 0 = m := by rw [hx]; simp [List.getD]
      refine hK (IntKind.wrap IntKind.i64 ((↑(List.getD xs (Int.toNat (IntKind.wrap IntKind.i64 ((↑(RowI.n (rowN A xs)) : Int) - 1))) 0) : Int) + 1)) ?_ fun Q hQ => ?_
      · show (((lenN a.toNat : Nat) : Int) != IntKind.wrap IntKind.i64 (((xs.getD (Int.toNat (IntKind.wrap IntKind.i64 ((xs.length : Int) - 1))) 0 : Nat) : Int) + 1)) = false
        rw [hw, hg, hlm, IntWalk.i64_in _ ⟨by omega, by omega⟩]
        simp
      · exact ev_codeE hE 60 .normal (st_e1 a many A xs c (allE_cons (decide_eq_true (by show ((xs.length : Int) > 0); omega)) (allE_cons (decide_eq_true (by show 0 ≤ IntKind.wrap IntKind.i64 ((xs.length : Int) - 1) ∧ IntKind.wrap IntKind.i64 ((xs.length : Int) - 1) < (xs.length : Int); rw [hw]; omega)) allE_nil))) hP5 hB5 fun a6 Hr6 w6 hP6 hB6 _ => hQ a6 Hr6 w6 hP6 hB6
  refine hn _ fun nn hnn hcode => ?_
  refine wp_parts (by kernel_rfl) (hcode _ fun a6 Hr6 w6 hP6 hB6 => ?_)
  refine ev_seqs hE 60 1 (st_f a many A xs c nn) hP6 hB6 fun a7 Hr7 w7 hP7 hB7 _ => ?_
  refine wp_parts (by kernel_rfl) ?_
  refine ev_codeE hE 60 .normal (st_g a many A xs c nn (allE_cons (by rw [re_eq]; exact hnn) allE_nil)) hP7 hB7 fun a8 Hr8 w8 hP8 hB8 _ => ?_
  refine wp_parts (by kernel_rfl) ?_
  refine ev_seqs hE 60 1 (st_h a many A xs c) hP8 hB8 fun a9 Hr9 w9 hP9 hB9 _ => ?_
  refine wp_bk (by kernel_rfl) (wp_lp 3 (by kernel_rfl) ?_)
  rw [rounds_succ]
  refine ev_seqs hE 60 1 (st_f0 a many A xs c) hP9 hB9 fun b1 Kr1 v1 hQ1 hC1 _ => ?_
  refine wp_parts (by kernel_rfl) (wp_bk (by kernel_rfl) ?_)
  refine ev_seqs hE 60 1 (st_g0 a many A xs c) hQ1 hC1 fun b2 Kr2 v2 hQ2 hC2 _ => ?_
  refine wp_parts (by kernel_rfl) ?_
  refine ev_seqs hE 60 1 (st_h0 a many A xs c) hQ2 hC2 fun b3 Kr3 v3 hQ3 hC3 _ => ?_
  have hQ3' := patSt_cells (l := 6) (cs' := [.int .i64 false 0]) (H := mB a many A xs c ++ [AIt.cells [.int .i64 true 0] 3, AIt.cells [.int .i64 true 0] 3]) rfl rfl rfl hQ3
  have hC3' := bun_cells (l := 6) (cs' := [.int .i64 false 0]) (H := mB a many A xs c ++ [AIt.cells [.int .i64 true 0] 3, AIt.cells [.int .i64 true 0] 3]) rfl hC3
  have hat : ∀ (k : Nat) x, xs[k]? = some x → k < xs.length ∧ xs.getD (k : Int).toNat 0 = x := fun k x hx => ⟨(List.getElem?_eq_some_iff.1 hx).1, by simp [List.getD, hx]⟩
  have hcond : ∀ (k : Nat) x, xs[k]? = some x → decide ((k : Int) ≥ (xs.length : Int)) = false ∧ decide (0 ≤ (k : Int) ∧ (k : Int) < (xs.length : Int)) = true ∧ (((xs.getD (k : Int).toNat 0 : Nat) : Int) != (x : Int)) = false := fun k x hx => by
    obtain ⟨h1, h2⟩ := hat k x hx
    exact ⟨by simp; omega, by simp; omega, by rw [h2]; simp⟩
  refine ev_rangeAt hE 60 (m := ⟨mB a many A xs c ++ [AIt.cells [.int .i64 true 0] 3, AIt.cells [.int .i64 false 0] 3], [], allW⟩) (live := [(2, .ptr 0 0), (3, .ptr 1 0), (4, .ptr 2 0), (5, .ptr 3 0), (7, .func (.func 41) [.ptr 4 0]), (8, .ptr 5 0), (9, .ptr 6 0), (37, .func (.func 41) [.ptr 4 0])]) (n := nG) (caps := [.ptr 4 0]) (xs := xs) (encs := encN) (by kernel_rfl) (fun _ => by kernel_rfl) (enters_of Tryd.func41 (by kernel_rfl) rfl) (by kernel_rfl) [4] (hseq Kr3 v3 rfl rfl rfl hQ3' hC3'.own) (fun _ x => [.int .i64 true (x : Int)]) (fun k x _ => rfl) (fun _ _ => rfl) (fun k => mB a many A xs c ++ [AIt.cells [.int .i64 true 0] 3, AIt.cells [.int .i64 false ((k : Nat) : Int)] 3]) rfl (fun _ => rfl) (fun k => [false, false, decide (IntKind.i64.wrap ((k : Int) + 1) ≥ many)]) (fun k => decide (IntKind.i64.wrap ((k : Int) + 1) ≥ many))
    (fun k x r hx _ => ?_) hQ3' hC3' fun k b4 Kr4 v4 hEn hQ4 hC4 _ => ?_
  · obtain ⟨q1, q2, q3⟩ := hcond k x hx
    have hk := (hat k x hx).1
    have e := wrap_k (k := k) (by omega)
    change Is (evR _ _ _ _ _ _ (rndK _ _ _ (mB a many A xs c ++ [AIt.cells [.int .i64 true 0] 3, AIt.cells [.int .i64 false ((k + 1 : Nat) : Int)] 3])))
    rw [← e]
    rcases hz : decide (IntKind.i64.wrap ((k : Int) + 1) ≥ many) with _ | _
    · exact st_r0f a many A xs c (k : Int) x (allE_cons q1 (allE_cons q2 (allE_cons q3 (allE_cons hz allE_nil)))) r
    · exact st_r0t a many A xs c (k : Int) x (allE_cons q1 (allE_cons q2 (allE_cons q3 (allE_cons hz allE_nil)))) r
  have hkm : (((k : Nat) : Int) != (if (if many > 1 then many else 1) < (xs.length : Int) then (if many > 1 then many else 1) else (xs.length : Int))) = false := by
    have hb : ∀ j, j < xs.length → (decide (IntKind.i64.wrap ((j : Int) + 1) ≥ many) = true ↔ many ≤ (j : Int) + 1) := fun j hj => by
      rw [wrap_k (by omega)]; simp
    rw [bne_eq_false_iff_eq]
    rcases hEn with ⟨h1, h2⟩ | ⟨h1, h2, h3, h4⟩
    · subst h1
      rcases Nat.eq_zero_or_pos xs.length with h0 | h0
      · repeat' split <;> omega
      · have h5 := h2 (xs.length - 1) (by omega)
        have h6 := (not_congr (hb (xs.length - 1) (by omega))).1 (by have h5 : decide (IntKind.i64.wrap (((xs.length - 1 : Nat) : Int) + 1) ≥ many) = false := h5; rw [h5]; simp)
        repeat' split <;> omega
    · have h5 := (hb (k - 1) (by omega)).1 h3
      by_cases hk1 : k = 1
      · repeat' split <;> omega
      · have h6 := h4 (k - 2) (by omega)
        have h7 := (not_congr (hb (k - 2) (by omega))).1 (by have h6 : decide (IntKind.i64.wrap (((k - 2 : Nat) : Int) + 1) ≥ many) = false := h6; rw [h6]; simp)
        repeat' split <;> omega
  refine ev_codeE hE 60 .normal (st_i0 a many A xs c (k : Int) (allE_cons hkm allE_nil)) hQ4 hC4 fun b5 Kr5 v5 hQ5 hC5 _ => ?_
  refine ev_codeE hE 60 .normal (st_j0 a many A xs c (k : Int)) hQ5 hC5 fun b6 Kr6 v6 hQ6 hC6 _ => ?_
  refine ev_seqs hE 60 1 (st_f1 a many A xs c (k : Int)) hQ6 hC6 fun b7 Kr7 v7 hQ7 hC7 _ => ?_
  refine wp_parts (by kernel_rfl) (wp_bk (by kernel_rfl) ?_)
  refine ev_seqs hE 60 1 (st_g1 a many A xs c (k : Int)) hQ7 hC7 fun b8 Kr8 v8 hQ8 hC8 _ => ?_
  refine wp_parts (by kernel_rfl) ?_
  refine ev_seqs hE 60 1 (st_h1 a many A xs c (k : Int)) hQ8 hC8 fun b9 Kr9 v9 hQ9 hC9 _ => ?_
  have hQ9' := patSt_cells (l := 8) (cs' := [.int .i64 false 0]) (H := mB a many A xs c ++ [AIt.cells [.int .i64 true 0] 3, AIt.cells [.int .i64 false (k : Int)] 3, AIt.cells [.int .i64 true 1] 3, AIt.cells [.int .i64 true 0] 3]) rfl rfl rfl hQ9
  have hC9' := bun_cells (l := 8) (cs' := [.int .i64 false 0]) (H := mB a many A xs c ++ [AIt.cells [.int .i64 true 0] 3, AIt.cells [.int .i64 false (k : Int)] 3, AIt.cells [.int .i64 true 1] 3, AIt.cells [.int .i64 true 0] 3]) rfl hC9
  refine ev_rangeAt hE 60 (m := ⟨mB a many A xs c ++ [AIt.cells [.int .i64 true 0] 3, AIt.cells [.int .i64 false (k : Int)] 3, AIt.cells [.int .i64 true 1] 3, AIt.cells [.int .i64 false 0] 3], [], allW⟩) (live := [(2, .ptr 0 0), (3, .ptr 1 0), (4, .ptr 2 0), (5, .ptr 3 0), (7, .func (.func 41) [.ptr 4 0]), (8, .ptr 7 0), (9, .ptr 8 0), (37, .func (.func 41) [.ptr 4 0])]) (n := nG) (caps := [.ptr 4 0]) (xs := xs) (encs := encN) (by kernel_rfl) (fun _ => by kernel_rfl) (enters_of Tryd.func41 (by kernel_rfl) rfl) (by kernel_rfl) [4] (hseq Kr9 v9 rfl rfl rfl hQ9' hC9'.own) (fun _ x => [.int .i64 true (x : Int)]) (fun k x _ => rfl) (fun _ _ => rfl) (fun j => mB a many A xs c ++ [AIt.cells [.int .i64 true 0] 3, AIt.cells [.int .i64 false (k : Int)] 3, AIt.cells [.int .i64 true 1] 3, AIt.cells [.int .i64 false ((j : Nat) : Int)] 3]) rfl (fun _ => rfl) (fun _ => [false, false]) (fun _ => false)
    (fun j x r hx _ => ?_) hQ9' hC9' fun j b10 Kr10 v10 hEn2 hQ10 hC10 _ => ?_
  · obtain ⟨q1, q2, q3⟩ := hcond j x hx
    have hk := (hat j x hx).1
    have e := wrap_k (k := j) (by omega)
    change Is (evR _ _ _ _ _ _ (rndK _ _ _ (mB a many A xs c ++ [AIt.cells [.int .i64 true 0] 3, AIt.cells [.int .i64 false (k : Int)] 3, AIt.cells [.int .i64 true 1] 3, AIt.cells [.int .i64 false ((j + 1 : Nat) : Int)] 3])))
    rw [← e]
    exact st_r1 a many A xs c (j : Int) (k : Int) x (allE_cons q1 (allE_cons q2 (allE_cons q3 allE_nil))) r
  have hj : (((j : Nat) : Int) != (xs.length : Int)) = false := by
    rw [bne_eq_false_iff_eq]
    rcases hEn2 with ⟨h1, _⟩ | ⟨_, _, h3, _⟩
    · rw [h1]
    · cases h3
  refine ev_codeE hE 60 .normal (st_i1 a many A xs c (k : Int) (j : Int) (allE_cons hj allE_nil)) hQ10 hC10 fun b11 Kr11 v11 hQ11 hC11 _ => ?_
  refine ev_codeE hE 60 .normal (st_j1 a many A xs c (k : Int) (j : Int)) hQ11 hC11 fun b12 Kr12 v12 hQ12 hC12 _ => ?_
  refine ev_codeE hE 60 (.exit 0) (st_k a many A xs c (k : Int) (j : Int)) hQ12 hC12 fun b13 Kr13 v13 hQ13 hC13 _ => ?_
  exact ev_rest hE 60 (st_z a many A xs c (k : Int) (j : Int)) rfl rowN_pos hQ13 hC13
end

section
open Go.ChangeShapes Go.WideShapes Go.ChangeAt Go.RowKit

abbrev laidT : List (String × DataW Unit) := [("math/bits.deBruijn64tab", Rows.laid_math_bits_deBruijn64tab)]
theorem gTab : Tryd.prog.globalNamed "math/bits.deBruijn64tab" = some 0 := by kernel_rfl
theorem tTab : (Tryd.prog.globals[0]?).map (·.type) = some 76 := by kernel_rfl
theorem uTab : Tryd.prog.underlying 76 = some (.array 64 5) := by kernel_rfl
theorem uByte : Tryd.prog.underlying 5 = some (.int .u8) := by kernel_rfl
theorem laid_list : (Rows.laid_math_bits_deBruijn64tab : DataW Unit) = .agg ((List.range 64).map fun j => .lit (.int .u8 ((Lib.deBruijn64tab.getD j 0 : Nat) : Int))) := by kernel_rfl
theorem door_met (os : Os) (args : Array Value) : laidMetH Tryd.prog laidT ((World.doorLaid Tryd.prog 14 os).forCall (fun _ _ => 0) ⟨#[], args, []⟩).memory :=
  laidMetH_of_parts3 (fuel := 8) (laidMet_of_run' 8 (by kernel_rfl) (by kernel_rfl)) (by kernel_rfl) (by kernel_rfl)
theorem of_laid {W : World} (h : laidMetH Tryd.prog laidT W) : TabTz 0 W := by
  rw [MakeChecks.laidMetH_plain _ _ _ (by kernel_rfl)] at h
  obtain ⟨ps, ⟨g0, t0, cs0, f0, p0, q0, hg0, ht0, hv0, hd0, _, _⟩, _, _⟩ := h
  obtain rfl := Option.some.inj (gTab.symm.trans hg0)
  obtain rfl := Option.some.inj (tTab.symm.trans ht0)
  have c5 : Tryd.prog.cellsOf 5 = 1 := by kernel_rfl
  obtain ⟨xs, m1, rfl, hx1, hlen, hn, hel⟩ := DataW.trod_array uTab hd0
  rw [laid_list] at hx1
  simp only [Prod.mk.injEq, DataW.agg.injEq] at hx1
  intro j hj
  have h0 := hel j hj
  rw [c5] at h0
  obtain ⟨x, hx⟩ : ∃ x, xs[j]? = some x := ⟨xs[j]'(by omega), List.getElem?_eq_getElem (by omega)⟩
  rw [hx] at h0
  obtain ⟨k, e1, e2, _⟩ := DataW.trod_int uByte h0
  have h2 := congrArg (fun l => l[j]?) hx1.1
  simp only [List.getElem?_map, hx, Option.map_some, List.getElem?_range hj, e2] at h2
  have hk : ((Lib.deBruijn64tab.getD j 0 : Nat) : Int) = k := by simpa using h2
  rw [World.var?_cell hg0 hv0 j, hk]
  have h3 := congrArg (fun l => l[0]?) e1
  simpa using h3
end
end Go.Proofs.YtoobfgahbndhjaaDoor
