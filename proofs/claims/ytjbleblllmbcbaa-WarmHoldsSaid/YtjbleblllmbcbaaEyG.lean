/- Ranges over functions by the evaluator. No program of its own. No condition. -/
import Derived.Test.YtjbleblllmbcbaaEyC
set_option linter.unusedVariables false
set_option linter.unusedSimpArgs false
namespace Go.Proofs.Ytjbleblllmbcbaa
open Go.RowKit
variable {D : List Deferred} {R : Rws}

def setps (tl : List AV) : List Nat → List AV → List AV
  | [], _ => tl
  | _ :: _, [] => tl
  | p :: ps, x :: xs => setps (tl.set p x) ps xs
def setvs (tl : List Value) : List Nat → List Value → List Value
  | [], _ => tl
  | _ :: _, [] => tl
  | p :: ps, x :: xs => setvs (tl.set p x) ps xs
theorem setps_rel {ρ : Nums} : ∀ {ps : List Nat} {xs : List AV} {Xs : List Value} {tl : List AV} {vs : List Value}, RelL R ρ tl vs → RelL R ρ xs Xs → RelL R ρ (setps tl ps xs) (setvs vs ps Xs)
  | [], _, _, _, _, h, _ => by unfold setps setvs; exact h
  | p :: ps, _, _, _, _, h, .nil => h
  | p :: ps, _, _, _, _, h, .cons hx hxs => by
    unfold setps setvs
    exact setps_rel (h.set hx) hxs
theorem setvs_foldl : ∀ (ps : List Tmp) (Xs vs : List Value), (ps.zip Xs).foldl (fun (t : Array Value) (x : Tmp × Value) => t.setIfInBounds x.1 x.2) vs.toArray = (setvs vs ps Xs).toArray
  | [], Xs, vs => by simp [setvs]
  | p :: ps, [], vs => by simp [setvs]
  | p :: ps, x :: Xs, vs => by
    simp only [List.zip_cons_cons, List.foldl_cons, List.setIfInBounds_toArray]
    exact setvs_foldl ps Xs _
theorem setvs_act (ps : List Tmp) (Xs vs : List Value) : ((ps.toArray.zip Xs.toArray).foldl (fun (t : Array Value) (x : Tmp × Value) => t.setIfInBounds x.1 x.2) vs.toArray) = (setvs vs ps Xs).toArray := by
  rw [List.zip_toArray, List.foldl_toArray]
  exact setvs_foldl ps Xs vs
mutual
def bddA (n : Nat) : AV → Bool
  | .ptr l _ => Nat.blt l n
  | .slice l _ _ _ => Nat.blt l n
  | .gsl l _ _ => Nat.blt l n
  | .gptr l _ _ => Nat.blt l n
  | .mp l => Nat.blt l n
  | .func _ cs => bddL n cs
  | .agg cs => bddL n cs
  | .tuple cs => bddL n cs
  | _ => true
def bddL (n : Nat) : List AV → Bool
  | [] => true
  | c :: r => bddA n c && bddL n r
end
def bddH (n : Nat) : Mem → Bool
  | [] => true
  | .cells c _ :: r => bddL n c && bddH n r
  | .row _ _ _ _ (some o) :: r => Nat.blt o n && bddH n r
  | _ :: r => bddH n r
theorem app_left {ρ σ : Nums} {l : Nat} {b : Num} (h : (ρ ++ σ)[l]? = some b) (hl : Nat.blt l ρ.length = true) : ρ[l]? = some b := by
  rw [Nat.blt_eq] at hl
  rwa [List.getElem?_append_left hl] at h
mutual
theorem Rel.shrink {ρ σ : Nums} : ∀ {v : AV} {V : Value}, bddA ρ.length v = true → Rel R (ρ ++ σ) v V → Rel R ρ v V
  | _, _, _, .bool => .bool
  | _, _, _, .int => .int
  | _, _, _, .bv h => .bv h
  | _, _, hb, .ptr h => .ptr (app_left h (by simpa [bddA] using hb))
  | _, _, hb, .slice h => .slice (app_left h (by simpa [bddA] using hb))
  | _, _, hb, .func h => .func (RelL.shrink (by simpa [bddA] using hb) h)
  | _, _, hb, .agg h => .agg (RelL.shrink (by simpa [bddA] using hb) h)
  | _, _, hb, .tuple h => .tuple (RelL.shrink (by simpa [bddA] using hb) h)
  | _, _, _, .raw => .raw
  | _, _, _, .rsl h hc => .rsl h hc
  | _, _, _, .rptr h ha hi => .rptr h ha hi
  | _, _, hb, .gsl h hn hz hm => .gsl (app_left h (by simpa [bddA] using hb)) hn hz hm
  | _, _, hb, .gptr h => .gptr (app_left h (by simpa [bddA] using hb))
  | _, _, hb, .mp h => .mp (app_left h (by simpa [bddA] using hb))
  | _, _, _, .junk => .junk
theorem RelL.shrink {ρ σ : Nums} : ∀ {v : List AV} {V : List Value}, bddL ρ.length v = true → RelL R (ρ ++ σ) v V → RelL R ρ v V
  | _, _, _, .nil => .nil
  | _, _, hb, .cons h hs => by
    simp only [bddL, Bool.and_eq_true] at hb
    exact .cons (Rel.shrink hb.1 h) (RelL.shrink hb.2 hs)
end
theorem bddH_get {n : Nat} : ∀ {H : Mem} {l : Nat} {cs : List AV} {t : TypeId}, bddH n H = true → H[l]? = some (.cells cs t) → bddL n cs = true
  | [], l, cs, t, _, h => by simp at h
  | it :: r, 0, cs, t, hb, h => by
    simp at h; subst h
    simp only [bddH, Bool.and_eq_true] at hb
    exact hb.1
  | it :: r, l + 1, cs, t, hb, h => by
    refine bddH_get (H := r) (l := l) ?_ (by simpa using h)
    cases it with
    | cells c t => simp only [bddH, Bool.and_eq_true] at hb; exact hb.2
    | gone => exact hb
    | map _ => exact hb
    | row _ _ _ _ o => cases o with
      | none => exact hb
      | some o => simp only [bddH, Bool.and_eq_true] at hb; exact hb.2
theorem RelB.shrink {ρ σ : Nums} {H : Mem} {Hr : List RBlk} (hb : bddH ρ.length H = true) (h : RelB R (ρ ++ σ) H Hr) : RelB R ρ H Hr := ⟨h.1, fun l it p h1 h2 => by
  cases h.2 l it p h1 h2 with
  | cells hc => exact .cells (hc.shrink (bddH_get hb h1))
  | row a b c d e => exact .row a b c d e
  | map a => exact .map a
  | gone => exact .gone⟩
theorem RelB.take {ρ : Nums} (n : Nat) {H : Mem} {Hr : List RBlk} (h : RelB R ρ H Hr) : RelB R ρ (H.take n) (Hr.take n) := ⟨by simp [h.1], fun l it p h1 h2 => by
  rw [List.getElem?_take] at h1 h2
  split at h1
  · rename_i hl
    rw [if_pos hl] at h2
    exact h.2 l it p h1 h2
  · cases h1⟩
theorem RelL.of_plains' {ρ : Nums} {v : List AV} {V : List Value} (h : AV.plains? v = some V) : RelL R ρ v V := RelL.of_plains h
def memN (l : Nat) : List Nat → Bool
  | [] => false
  | x :: r => Nat.beq l x || memN l r
def endOf (id : Nat) : AExit → Option Bool
  | .normal => some false
  | .exit j => bif Nat.beq j id then some true else none
  | _ => none
def rndK (br : Bool) (id n0 : Nat) (H' : Mem) : AExit → ASt → Prop := fun e st => (endOf id e, st.m.H.take n0, bddH n0 (st.m.H.take n0), st.m.ds) = (some br, H', true, ([] : List Bool))
abbrev rndR (br : Bool) (H' : Mem) : Option Bool × Mem × Bool × List Bool := (some br, H', true, [])
def noMap : Mem → Bool
  | [] => true
  | .map _ :: _ => false
  | _ :: r => noMap r
theorem noMap_get {m : MapI} : ∀ {H : Mem} {l : Nat}, noMap H = true → H[l]? = some (.map m) → False
  | [], l, _, h => by simp at h
  | it :: r, 0, hb, h => by
    simp at h; subst h; cases hb
  | it :: r, l + 1, hb, h => by
    refine noMap_get (H := r) (l := l) ?_ (by simpa using h)
    cases it <;> first | exact hb | cases hb
/-- A round: the loop's variables are laid; then the body. -/
def evR (E : Env) (nf n0 : Nat) (assign body : Code) (st : ASt) (K : AExit → ASt → Prop) : Prop :=
  evT E nf (.code assign) st fun e st1 => match e with
    | .normal => bif noMap (st1.m.H.drop n0) then evT E nf (.code body) ⟨st1.tl, ⟨st1.m.H, st1.m.ds, fun l => st.m.wr l && (Nat.blt l n0 || Nat.ble st1.m.H.length l)⟩⟩ K else False
    | _ => False
theorem Stp.keep {wr : Nat → Bool} {A B : List RBlk} {u v : World} (h : Stp wr A u B v) {S : Nat → Prop} (hs : ∀ k, S k → k < u.heap.size → ∀ (l : Nat) (q : Num), (nums A)[l]? = some q → q.b = k → wr l = false) : Keep S u v :=
  ⟨h.os, h.tape, h.output, h.size, fun k hk hl => h.block k hl (hs k hk hl)⟩
def Sfz (fz : List Nat) (Hr : List RBlk) (w : World) : Nat → Prop := fun k => k < w.heap.size ∧ ∀ (l : Nat) (q : Num), (nums Hr)[l]? = some q → q.b = k → memN l fz = true
def MemR (R : Rws) (wr : Nat → Bool) (Hr : List RBlk) (w : World) (H : Mem) (V : World) : Prop := ∃ Hk, nums Hk = nums Hr ∧ RelB R (nums Hr) H Hk ∧ Apart H Hk ∧ OwnM H Hk V ∧ Stp wr Hr w Hk V
theorem Stp.any {wr : Nat → Bool} {Hr B : List RBlk} {w V V' : World} {row : Option Nat} (h : Stp wr Hr w B V) (hg : V.grownBy V' row) (hr : ∀ r, row = some r → w.heap.size ≤ r) : Stp wr Hr w B V' :=
  ⟨hg.os.trans h.os, hg.tape.trans h.tape, hg.output.trans h.output, Nat.le_trans h.size hg.size, h.ext, fun k hk hl => (hg.block k (Nat.lt_of_lt_of_le hk h.size) (fun e => by have := hr k e.symm; omega)).trans (h.block k hk hl)⟩
theorem nums_lt {H : Mem} {Hr : List RBlk} {w : World} (h : OwnM H Hr w) (hl : Hr.length = H.length) {l : Nat} {q : Num} (hq : (nums Hr)[l]? = some q) : q.b < w.heap.size := by
  obtain ⟨p, hp, rfl⟩ := nums_at hq
  exact own_lt h hl hp
theorem mem_any {wr : Nat → Bool} {H0 : Mem} {Hr : List RBlk} {w : World} (hO : OwnM H0 Hr w) (hl0 : Hr.length = H0.length) {Hk : Nat → Mem} {p : Nat → Prop} : AnyFrom w.heap.size (fun k V => p k ∧ MemR R wr Hr w (Hk k) V) := by
  rintro k V V' row ⟨hp, Hr1, h1, h2, h3, h4, h5⟩ hg hr
  refine ⟨hp, Hr1, h1, h2, h3, fun l it q g1 g2 => ?_, h5.any hg hr⟩
  obtain ⟨x1, x2⟩ := h4 l it q g1 g2
  have hn : (nums Hr)[l]? = some q.num := by rw [← h1]; exact nums_get g2
  have hlt : q.b < w.heap.size := nums_lt hO hl0 hn
  refine ⟨Nat.lt_of_lt_of_le x1 hg.size, fun hv => ?_⟩
  rw [hg.block q.b x1 fun e => by have := hr _ e.symm; omega]
  exact x2 hv
def Ends (br : Nat → Bool) (len k : Nat) : Prop := (k = len ∧ ∀ j, j < k → br j = false) ∨ (0 < k ∧ k ≤ len ∧ br (k - 1) = true ∧ ∀ j, j < k - 1 → br j = false)
def isRg : Code → Bool
  | .block _ (.rangeFunc _ _ _ _) => true
  | _ => false
def rgI : Code → Nat
  | .block id (.rangeFunc _ _ _ _) => id
  | _ => 0
def rgG : Code → Operand
  | .block _ (.rangeFunc g _ _ _) => g
  | _ => .tmp 0
def rgP : Code → Array Tmp
  | .block _ (.rangeFunc _ ps _ _) => ps
  | _ => #[]
def rgA : Code → Code
  | .block _ (.rangeFunc _ _ a _) => a
  | _ => .skip
def rgB : Code → Code
  | .block _ (.rangeFunc _ _ _ b) => b
  | _ => .skip
def isSq : Code → Bool
  | .seq _ _ => true
  | _ => false
def sL : Code → Code
  | .seq x _ => x
  | _ => .skip
def sR : Code → Code
  | .seq _ y => y
  | _ => .skip
theorem wp_parts {P : Program} {c : Code} {Q : Exit → Act → World → Prop} {a : Act} {w : World} (hc : isSq c = true) (h : (sL c).wp P (Exit.then ((sR c).wp P Q) Q) a w) : c.wp P Q a w := by
  unfold isSq at hc
  split at hc
  · exact wp_seq h
  · cases hc
section
variable {E : Env} (hE : EnvOK E) {Ds : List Nat} {n0 : Nat} {w0 : World}
include hE
theorem ev_range (nf : Nat) {α : Type} {xs : List α} {encs : Nat → α → Array Value} {id : Nat} {g : Operand} {ps : Array Tmp} {assign body : Code} {gf : Nat} {caps : List AV} {live : List (Nat × AV)} {n : Nat} {m : AM} {a : Act} {Hr : List RBlk} {w : World} {Q : Exit → Act → World → Prop}
    (hg : ∀ r, evO (pat live r 0 n) g = some (.func (.func gf) caps)) (eg : Enters E.P gf) (hin : inB assign = true) (hin2 : inB body = true) (fz : List Nat)
    (hseq : ∀ lb, RelL E.rows (nums Hr) caps lb → Seq E.P gf lb.toArray encs xs (Sfz fz Hr w) w)
    (xA : Nat → α → List AV) (hx : ∀ k x, xs[k]? = some x → AV.plains? (xA k x) = some (encs k x).toList) (hps : ∀ k x, (encs k x).size = ps.size)
    (Hk : Nat → Mem) (h0 : Hk 0 = m.H) (hlen : ∀ k, (Hk k).length = m.H.length) (ds : Nat → List Bool) (br : Nat → Bool)
    (hround : ∀ k x r, xs[k]? = some x → (∀ j, j < k → br j = false) → Is (evR E nf m.H.length assign body ⟨setps (pat live r 0 n) ps.toList (xA k x), ⟨Hk k, ds k, fun l => m.wr l && !memN l fz⟩⟩ (rndK (br k) id m.H.length (Hk (k + 1)))))
    (hP : PatSt E.rows (Ds.map markD) live n m a Hr) (hB : Bun E.rows Ds n0 w0 m.H Hr w)
    (hk : ∀ k a' Hr' w', Ends br xs.length k → PatSt E.rows ((w.heap.size :: Ds).map markD) live n ⟨Hk k, [], m.wr⟩ a' Hr' → Bun E.rows (w.heap.size :: Ds) n0 w0 (Hk k) Hr' w' → Stp m.wr Hr w Hr' w' → Q .normal a' w') :
    (Code.block id (.rangeFunc g ps assign body)).wp E.P Q a w := by
  obtain ⟨r, vs, rfl, ht, hBl, hnd⟩ := hP
  have hbl := hBl.len
  have hfl := evO_sound (D := Ds.map markD) ht _ _ (hg r)
  generalize hge : (⟨vs.toArray, Ds.map markD⟩ : Act).eval g = gv at hfl
  cases hfl with | func hcaps =>
  rename_i lb
  refine wp_block ?_
  refine wp_each_block (w0 := w) (xs := xs) (encs := encs) (S := Sfz fz Hr w) hge (fun args w => eg args w) (hseq lb hcaps) (fun k hk => hk.1) (Keep.refl _ _) hps
    (fun k V => (∀ j, j < k → br j = false) ∧ MemR E.rows m.wr Hr w (Hk k) V) (fun k V => (0 < k ∧ br (k - 1) = true ∧ ∀ j, j < k - 1 → br j = false) ∧ MemR E.rows m.wr Hr w (Hk k) V) (mem_any hB.own.1 hBl.len) (mem_any hB.own.1 hBl.len)
    ⟨fun j hj => absurd hj (Nat.not_lt_zero _), Hr, rfl, by rw [h0]; exact hBl, by rw [h0]; exact hnd, by rw [h0]; exact hB.own.1, .refl _ _ _⟩ ?round ?hend
  case round =>
    rintro l k x V hxk ⟨hbr, Hk_r, hn1, hrel, hap, hown, hstp⟩ hl
    have hstpO : OwnK E.rows (Hk k) Hk_r V := ⟨hown, hstp.rd hB.own.2⟩
    have hrd := hround k x r hxk hbr
    have hR0 : RelSt E.rows [] ⟨setps (pat live r 0 n) ps.toList (xA k x), ⟨Hk k, ds k, fun l => m.wr l && !memN l fz⟩⟩ { tmps := (ps.zip (encs k x)).foldl (fun (t : Array Value) (x : Tmp × Value) => t.setIfInBounds x.1 x.2) vs.toArray, defers := [] } Hk_r := by
      refine ⟨setvs vs ps.toList (encs k x).toList, ?_, ?_, ?_, hap⟩
      · have := setvs_act ps.toList (encs k x).toList vs
        rw [Array.toArray_toList, Array.toArray_toList] at this
        rw [this]
      · rw [hn1]; exact setps_rel ht (RelL.of_plains (hx k x hxk))
      · rw [hn1]; exact hrel
    have hrd' := hrd.is
    unfold evR at hrd'
    obtain ⟨e, st1, hk1, hwr1, hs1⟩ := ev_in hE l nf assign _ _ hin hrd'
    cases e <;> simp only at hk1
    cases hnm : noMap (st1.m.H.drop m.H.length) <;> simp only [hnm, cond_true, cond_false] at hk1
    obtain ⟨e2, st2, hk2, hwr2, hs2⟩ := ev_in hE l nf body _ _ hin2 hk1
    refine wpIn_mono (hs1 _ Hk_r V hR0 hstpO) ?_
    rintro e' a1 V1 ⟨rfl, Hr1, hR1, hO1, hS1⟩
    have hS1w : Stp m.wr Hr w Hr1 V1 := hstp.trans (hS1.mono (fun l hl => by rw [Bool.and_eq_true] at hl; exact hl.1))
    have hSk : ∀ b, (Sfz fz Hr w b ∨ w.heap.size ≤ b) → b < V.heap.size → ∀ (l : Nat) (q : Num), (nums Hk_r)[l]? = some q → q.b = b → (m.wr l && !memN l fz) = false := by
      rintro b (⟨_, hb⟩ | hb) _ l q hl hqb
      · rw [hn1] at hl; rw [hb l q hl hqb]; simp
      · rw [hn1] at hl; have := nums_lt hB.own.1 hBl.len hl; omega
    obtain ⟨σ, hσ, hσ2⟩ := hS1.ext
    have hlen1 := hR1
    obtain ⟨vs1, _, _, hBl1, hnd1⟩ := hlen1
    have hH1 : (nums Hr1).length = st1.m.H.length := by rw [← hBl1.len]; simp [nums]
    have hHr0 : (nums Hr).length = m.H.length := by rw [← hbl]; simp [nums]
    refine ⟨hS1.keep hSk, fun V2 => OwnM st1.m.H Hr1 V2 ∧ Stp m.wr Hr w Hr1 V2, ?_, ⟨hO1.1, hS1w⟩, ?_⟩
    · intro u W W' row ⟨ho, hst⟩ hg hr
      exact ⟨fun l it q g1 g2 => by
        obtain ⟨x1, x2⟩ := ho l it q g1 g2
        refine ⟨Nat.lt_of_lt_of_le x1 hg.size, fun hv => ?_⟩
        rw [hg.block q.b x1 fun e => by
          obtain ⟨hge', o, ho1, ho2⟩ := hr _ e.symm
          rw [x2 hv] at ho1
          cases ho1
          have hrel := hBl1.2 l it q g1 g2
          have g4 := nums_get g2
          have hqn : q.num.b = q.b := rfl
          generalize q.num = qn at g4 hqn
          cases hrel with
          | cells _ => simp [Obj.isCells] at ho2
          | row _ _ _ _ _ => simp [Obj.isCells] at ho2
          | map _ =>
            rcases Nat.lt_or_ge l m.H.length with hlt | hge2
            · rw [hσ, hn1, List.getElem?_append_left (by rw [hHr0]; exact hlt)] at g4
              have := nums_lt hB.own.1 hBl.len g4
              simp only at hqn hge'
              omega
            · exact noMap_get hnm (l := l - m.H.length) (by rw [List.getElem?_drop, Nat.add_sub_cancel' hge2]; exact g1)
          | gone => cases hv]
        exact x2 hv, hst.any hg (fun r e => (hr r e).1)⟩
    · rintro V2 ⟨ho, hst⟩
      have hbod : ∀ b, (Sfz fz Hr w b ∨ w.heap.size ≤ b) → b < V2.heap.size → ∀ (l : Nat) (q : Num), (nums Hr1)[l]? = some q → q.b = b → ((m.wr l && !memN l fz) && (Nat.blt l m.H.length || Nat.ble st1.m.H.length l)) = false := by
        intro b hb _ l q hl hqb
        rw [hσ, hn1] at hl
        rcases Nat.lt_or_ge l (nums Hr).length with hlt | hge'
        · rw [List.getElem?_append_left hlt] at hl
          rw [hSk b hb (by have := nums_lt hB.own.1 hBl.len hl; have := hstp.size; omega) l q (by rw [hn1]; exact hl) hqb]; rfl
        · have hll : l < st1.m.H.length := by
            rw [← hH1, hσ, hn1]; exact (List.getElem?_eq_some_iff.1 hl).1
          have e1 : Nat.blt l m.H.length = false := by rw [Bool.eq_false_iff]; intro h; rw [Nat.blt_eq] at h; omega
          have e2 : Nat.ble st1.m.H.length l = false := by rw [Bool.eq_false_iff]; intro h; have := Nat.le_of_ble_eq_true h; omega
          rw [e1, e2]; simp
      refine wpIn_mono (hs2 a1 Hr1 V2 hR1 ⟨ho, hst.rd hB.own.2⟩) ?_
      rintro e' a2 V3 ⟨rfl, Hr2, hR2, hO2, hS2⟩
      have hS2w : Stp m.wr Hr w Hr2 V3 := hst.trans (hS2.mono (fun l hl => by have hl : ((m.wr l && !memN l fz) && (Nat.blt l m.H.length || Nat.ble st1.m.H.length l)) = true := hl; rw [Bool.and_eq_true, Bool.and_eq_true] at hl; exact hl.1.1))
      have hmem : ∀ {H' : Mem}, st2.m.H.take m.H.length = H' → bddH m.H.length (st2.m.H.take m.H.length) = true → MemR E.rows m.wr Hr w H' V3 := by
        intro H' hH' hbd
        obtain ⟨σ2, hs2', hs3⟩ := hS2w.ext
        obtain ⟨vs2, _, _, hBl2, hnd2⟩ := hR2
        have hnt : nums (Hr2.take m.H.length) = nums Hr := by
          have : nums (Hr2.take m.H.length) = (nums Hr2).take m.H.length := by simp [nums, List.map_take]
          rw [this, hs2', ← hHr0, List.take_left]
        refine ⟨Hr2.take m.H.length, hnt, ?_, ?_, ?_, ?_⟩
        · subst hH'
          rw [hs2'] at hBl2
          refine RelB.shrink ?_ (hBl2.take m.H.length)
          rw [hHr0]; exact hbd
        · subst hH'
          intro k l jt kt x y hne h1 h2 v1 v2 q1 q2 hb
          rw [List.getElem?_take] at h1 h2 q1 q2
          split at h1
          · split at h2
            · rename_i c1 c2
              rw [if_pos c1] at q1; rw [if_pos c2] at q2
              exact hnd2 k l jt kt x y hne h1 h2 v1 v2 q1 q2 hb
            · cases h2
          · cases h1
        · subst hH'
          intro l jt x h1 q1
          rw [List.getElem?_take] at h1 q1
          split at h1
          · rename_i c1
            rw [if_pos c1] at q1
            exact hO2.1 l jt x h1 q1
          · cases h1
        · exact ⟨hS2w.os, hS2w.tape, hS2w.output, hS2w.size, ⟨[], by rw [hnt]; simp, by simp⟩, hS2w.block⟩
      unfold rndK at hk2
      simp only [Prod.mk.injEq] at hk2
      obtain ⟨q1, q2, q3, q4⟩ := hk2
      cases e2 <;> simp only [endOf] at q1
      case normal =>
        have hb0 : br k = false := by simpa using q1.symm
        refine ⟨hS2.keep hbod, fun j hj => ?_, hmem q2 q3⟩
        by_cases hjk : j = k
        · rw [hjk]; exact hb0
        · exact hbr j (by omega)
      case exit j =>
        cases hj : Nat.beq j id <;> simp only [hj, cond_true, cond_false] at q1
        · cases q1
        · have hb0 : br k = true := by simpa using q1.symm
          refine ⟨hS2.keep (fun b hb hl => hbod b (.inr hb) hl), by rw [Nat.eq_of_beq_eq_true hj], ⟨Nat.succ_pos _, by simpa using hb0, fun j hj => hbr j (by simpa using hj)⟩, hmem q2 q3⟩
      all_goals cases q1
  case hend =>
    intro k W hend hD
    have : Ends br xs.length k ∧ MemR E.rows m.wr Hr w (Hk k) W := by
      rcases hend with ⟨h1, h2, h3⟩ | ⟨h1, ⟨h2, h3, h4⟩, h5⟩
      · exact ⟨.inl ⟨h1, h2⟩, h3⟩
      · exact ⟨.inr ⟨h2, h1, h3, h4⟩, h5⟩
    obtain ⟨hends, Hk_r, hn1, hrel, hap, hown, hstp⟩ := this
    have hOK : OwnK E.rows (Hk k) Hk_r W := ⟨hown, hstp.rd hB.own.2⟩
    have hB' := hB.stp hOK hstp
    refine hk k _ Hk_r W hends ⟨r, vs, rfl, by rw [hn1]; exact ht, by rw [hn1]; exact hrel, hap⟩ ⟨hOK, fun D hD' => ?_, ?_, hB'.fresh, hB'.below, hB'.size⟩ hstp
    · rcases List.mem_cons.1 hD' with rfl | hD'
      · refine ⟨hD, fun hm => ?_, hB.size⟩
        rw [hn1] at hm
        obtain ⟨q, hq, hqb⟩ := List.mem_map.1 hm
        obtain ⟨l, hl, hl2⟩ := List.mem_iff_getElem.1 hq
        have := nums_lt hB.own.1 hBl.len (l := l) (q := q) (by rw [List.getElem?_eq_getElem hl, hl2])
        omega
      · exact hB'.marks D hD'
    · refine List.nodup_cons.2 ⟨fun hm => ?_, hB.nodup⟩
      have := (Array.getElem?_eq_some_iff.1 (hB.marks _ hm).1).1
      omega
/-- The same, where the code is told by its parts. -/
theorem ev_rangeAt (nf : Nat) {α : Type} {xs : List α} {encs : Nat → α → Array Value} {c : Code} {gf : Nat} {caps : List AV} {live : List (Nat × AV)} {n : Nat} {m : AM} {a : Act} {Hr : List RBlk} {w : World} {Q : Exit → Act → World → Prop}
    (hc : isRg c = true) (hg : ∀ r, evO (pat live r 0 n) (rgG c) = some (.func (.func gf) caps)) (eg : Enters E.P gf) (hin : (inB (rgA c) && inB (rgB c)) = true) (fz : List Nat)
    (hseq : ∀ lb, RelL E.rows (nums Hr) caps lb → Seq E.P gf lb.toArray encs xs (Sfz fz Hr w) w)
    (xA : Nat → α → List AV) (hx : ∀ k x, xs[k]? = some x → AV.plains? (xA k x) = some (encs k x).toList) (hps : ∀ k x, (encs k x).size = (rgP c).size)
    (Hk : Nat → Mem) (h0 : Hk 0 = m.H) (hlen : ∀ k, (Hk k).length = m.H.length) (ds : Nat → List Bool) (br : Nat → Bool)
    (hround : ∀ k x r, xs[k]? = some x → (∀ j, j < k → br j = false) → Is (evR E nf m.H.length (rgA c) (rgB c) ⟨setps (pat live r 0 n) (rgP c).toList (xA k x), ⟨Hk k, ds k, fun l => m.wr l && !memN l fz⟩⟩ (rndK (br k) (rgI c) m.H.length (Hk (k + 1)))))
    (hP : PatSt E.rows (Ds.map markD) live n m a Hr) (hB : Bun E.rows Ds n0 w0 m.H Hr w)
    (hk : ∀ k a' Hr' w', Ends br xs.length k → PatSt E.rows ((w.heap.size :: Ds).map markD) live n ⟨Hk k, [], m.wr⟩ a' Hr' → Bun E.rows (w.heap.size :: Ds) n0 w0 (Hk k) Hr' w' → Stp m.wr Hr w Hr' w' → Q .normal a' w') : c.wp E.P Q a w := by
  unfold isRg at hc
  split at hc
  · rw [Bool.and_eq_true] at hin
    exact ev_range hE nf hg eg hin.1 hin.2 fz hseq xA hx hps Hk h0 hlen ds br hround hP hB hk
  · cases hc
end
/-- A known block. -/
theorem blk_of {H : Mem} {Hr : List RBlk} {w : World} (hB : RelB R (nums Hr) H Hr) (hO : OwnM H Hr w) {l : Nat} {cs : List AV} {t : TypeId} {Vs : List Value} (hl : H[l]? = some (.cells cs t)) (hv : AV.vals? cs = some Vs) : ∃ q, (nums Hr)[l]? = some q ∧ Blk w q.b Vs.toArray t := by
  obtain ⟨b, s, Cs, e1, e2⟩ := hB.get hl
  have := e2.vals hv
  subst this
  exact ⟨_, nums_get e1, (hO l _ _ hl e1).2 rfl⟩
theorem rel_ptr {ρ : Nums} {l o : Nat} {V : Value} (h : Rel R ρ (.ptr l o) V) : ∃ q, ρ[l]? = some q ∧ V = .pointer (some ⟨q.b, o, none⟩) := by cases h; exact ⟨_, by assumption, rfl⟩
end Go.Proofs.Ytjbleblllmbcbaa
