/- (Where an iterator writes cells of its own between rounds, too.) Ranges over functions that yield a list that is known: the contract of such a function; the law of the range; regions that draw their order, in a round. No program of its own. No condition. -/
import Derived.Test.YtcfomhnfhalmaaaSl
import Derived.RangeFuncNested
import Derived.RangeFuncBound
import Derived.RangeFuncLeaves
import Derived.LoopN
import Derived.OrdersIn
set_option linter.unusedVariables false
set_option linter.unusedSimpArgs false
namespace Go.Proofs.Ytcfomhnfhalmaaa
open Go.RowKit

section
variable {P : Program} {ops : Array Oper} {Q : Exit → Act → World → Prop} {a : Act} {w : World} {l : Nat}
/-! ### In a round what is carried out is carried out as anywhere. -/
def noDefer (l : List Oper) : Bool := l.all fun o => match o.op with | .defer _ => false | _ => true
theorem noDefer_at {l : List Oper} (h : noDefer l = true) {i : Nat} {o : Oper} (ho : l.toArray[i]? = some o) : ∀ c, o.op ≠ .defer c := fun c hc => by
  have := List.all_eq_true.1 h o (List.mem_of_getElem? (by simpa using ho))
  rw [hc] at this
  cases this
theorem operIn (o : Oper) (hd : ∀ c, o.op ≠ .defer c) {K : Act → World → Prop} (h : o.wp P a w K Q) : o.wpIn (Fence.wide.inRound l) 0 P a w K Q := by
  refine ⟨fun _ _ => trivial, ?_⟩
  show o.uponIn (Fence.wide.inRound l) 0 P a K Q ((o.semAt (some l) a.eval).run P w)
  rw [Oper.semAt_some l _ o hd]
  unfold Oper.wp at h
  cases hr : (execOp a.eval o).run P w with
  | ok x w' =>
    rw [hr] at h
    cases x <;> simp only [Oper.upon, Oper.uponIn] at h ⊢
    all_goals first
      | exact h
      | exact h.elim
      | exact ⟨fun h => by simp [Fence.wide] at h, CallsIn.inRound l (callsIn_wide.2 h)⟩
      | skip
    all_goals exact ⟨fun h => by simp [Fence.wide] at h, fun c cs _ => let ⟨v, w', r, s⟩ := h c cs; ⟨v, w', r, stepsIn_wide.2 s⟩⟩
  | halt x w' =>
    rw [hr] at h
    cases x <;> simp only [Oper.upon, Oper.uponIn] at h ⊢ <;> first | exact h | exact h.elim
theorem opIn (hd : ∀ (i : Nat) (o : Oper), ops[i]? = some o → ∀ c, o.op ≠ .defer c) (hq : ¬ LetsOut Q) {i : Nat} {K K' : Act → World → Prop} (hK : ∀ a w, K a w → K' a w) (h : wpOp P ops Q i K a w) : wpOpIn (Fence.wide.inRound l) 0 P ops Q i K' a w := by
  unfold wpOp at h
  unfold wpOpIn
  cases ho : ops[i]? with
  | none => rw [ho] at h; exact hK _ _ h
  | some o =>
    rw [ho] at h
    simp only at h ⊢
    split
    · rename_i hw
      rw [if_pos hw] at h
      rcases h with h | h
      · exact operIn o (hd i o ho) (Oper.wp_mono hK h)
      · exact absurd h.2 hq
    · rename_i hw
      rw [if_neg hw] at h
      exact ⟨fun _ _ => trivial, hK _ _ h⟩
theorem anyIn {md : Region.Mode} (hd : ∀ (i : Nat) (o : Oper), ops[i]? = some o → ∀ c, o.op ≠ .defer c) (hq : ¬ LetsOut Q) : ∀ (n : Nat) (listed : Array Bool) (a : Act) (w : World), wpAny P md ops Q n listed a w → wpAnyIn (Fence.wide.inRound l) 0 P md ops Q n listed a w
  | 0, _, _, _, h => h
  | n + 1, listed, a, w, h => ⟨h.1, fun i hi => opIn hd hq (fun a w h => anyIn hd hq n _ a w h) (h.2 i hi)⟩
theorem listIn (hq : ¬ LetsOut Q) : ∀ (os : List Oper) (a : Act) (w : World), (∀ o ∈ os, ∀ c, o.op ≠ .defer c) → wpList P ops Q os a w → wpListIn (Fence.wide.inRound l) 0 P ops Q os a w
  | [], _, _, _, h => h
  | o :: os, a, w, hd, h => by
    have ih := fun a w h => listIn hq os a w (fun o ho => hd o (by simp [ho])) h
    unfold wpList at h
    unfold wpListIn
    split
    · rename_i hw
      rw [if_pos hw] at h
      rcases h with h | h
      · exact operIn o (hd o (by simp)) (Oper.wp_mono ih h)
      · exact absurd h.2 hq
    · rename_i hw
      rw [if_neg hw] at h
      exact ⟨fun _ _ => trivial, ih _ _ h⟩
theorem regIn {id : Nat} {os : List Oper} (hd : noDefer os = true) (hq : ¬ LetsOut Q) (h : wpList P os.toArray Q os a w) : (Code.region id os.toArray false).wpIn (Fence.wide.inRound l) 0 P Q a w :=
  wpIn_region_lit (listIn hq os a w (fun o ho => by
    obtain ⟨i, hi⟩ := List.getElem?_of_mem ho
    exact noDefer_at hd (by simpa using hi)) h)
theorem regInG {id : Nat} {os : List Oper} {H : List Block} (hd : noDefer os = true) (hq : ¬ LetsOut Q) (B n C G : Nat) (T0 : List Row4) (ord : List (Mv × Nat)) (tl : List (Nat × Nat)) (St : List Block) (hSt : ∀ p, p ∈ St → p ∈ H) (hBW : B ≤ w.heap.size) (hm : P.follows .mixedOrders = true) (hB : regionB .any os n C G T0 ord tl = true)
    (hO : Own H w)
    (h : wpG P os.toArray B w.drew St (fun a' S => ∀ w', Below B w w' → Holds S w' → wpList P os.toArray Q (os.drop n) a' w') (ord.map (·.1)) a (· ∈ H)) : (Code.region id os.toArray true).wpIn (Fence.wide.inRound l) 0 P Q a w :=
  wpIn_region_any hm (anyIn (fun i o ho => noDefer_at hd ho) hq _ _ _ _ (wpAny_region_grow B n C G T0 ord tl St hSt hBW hB hO h))
end

/-- These blocks lie as they lay. -/
structure Keep (S : Nat → Prop) (W W' : World) : Prop where
  os : W'.os = W.os
  tape : W'.tape = W.tape
  output : W'.output = W.output
  size : W.heap.size ≤ W'.heap.size
  block : ∀ k, S k → k < W.heap.size → W'.heap[k]? = W.heap[k]?
theorem Keep.refl (S : Nat → Prop) (W : World) : Keep S W W := ⟨rfl, rfl, rfl, Nat.le_refl _, fun _ _ _ => rfl⟩
theorem Keep.trans {S : Nat → Prop} {A B C : World} (h : Keep S A B) (k : Keep S B C) : Keep S A C :=
  ⟨k.os.trans h.os, k.tape.trans h.tape, k.output.trans h.output, Nat.le_trans h.size k.size, fun i hi hl => (k.block i hi (Nat.lt_of_lt_of_le hl h.size)).trans (h.block i hi hl)⟩
theorem Keep.mono {S S' : Nat → Prop} {A B : World} (h : Keep S A B) (hs : ∀ k, S' k → S k) : Keep S' A B := ⟨h.os, h.tape, h.output, h.size, fun k hk hl => h.block k (hs k hk) hl⟩
theorem Keep.of_below {S : Nat → Prop} {n : Nat} {A B : World} (h : Below n A B) (hs : ∀ k, S k → k < A.heap.size → k < n) : Keep S A B := ⟨h.os, h.tape, h.output, h.size, fun k hk hl => h.block k (hs k hk hl)⟩
theorem Keep.below {S : Nat → Prop} {A B C : World} (h : Keep S A B) (hb : Below B.heap.size B C) : Keep S A C := h.trans (Keep.of_below hb (fun _ _ hl => hl))
theorem Keep.alloc {S : Nat → Prop} {A B : World} (h : Keep S A B) (o : Obj) : Keep S A (B.alloc o) := h.below (World.below_alloc B o)
theorem Keep.drew {S : Nat → Prop} {A B : World} (h : Keep S A B) : Keep S A B.drew := ⟨h.os, h.tape, h.output, h.size, h.block⟩
theorem Keep.setCell {S : Nat → Prop} {A B : World} (h : Keep S A B) (p : Addr) (v : Value) (hp : ¬ S p.block ∨ A.heap.size ≤ p.block) : Keep S A (B.setCell p v) :=
  ⟨h.os, h.tape, h.output, by simpa using h.size, fun k hk hl => (Below.heap_setCell B p v k (fun e => by subst e; exact hp.elim (fun hp => hp hk) (fun hp => absurd hl (Nat.not_lt.2 hp)))).trans (h.block k hk hl)⟩
theorem Keep.put {S : Nat → Prop} {A B : World} (h : Keep S A B) (b : Nat) (o : Obj) (hp : ¬ S b ∨ A.heap.size ≤ b) : Keep S A (B.putObj b o) :=
  ⟨h.os, h.tape, h.output, by simpa [World.putObj] using h.size, fun k hk hl => (World.putObj_heap_other (fun e => by subst e; exact hp.elim (fun hp => hp hk) (fun hp => absurd hl (Nat.not_lt.2 hp)))).trans (h.block k hk hl)⟩
theorem Keep.blk {S : Nat → Prop} {A B : World} (h : Keep S A B) {b : Nat} {c : Array Value} {t : TypeId} (hb : Blk A b c t) (hs : S b) : Blk B b c t := (h.block b hs hb.lt).trans hb
theorem Keep.cell {S : Nat → Prop} {A B : World} (h : Keep S A B) {p : Addr} {v : Value} (hc : A.cell? p = some v) (hs : S p.block) : B.cell? p = some v :=
  (World.cell?_of_block (h.block p.block hs (World.block_lt_of_cell? A p hc))).trans hc
theorem Keep.slAt {S : Nat → Prop} {A B : World} (h : Keep S A B) {ad : Option Addr} {cs : List Value} (hl : SlAt A ad cs) (hs : cs ≠ [] → ∀ b off, ad = some ⟨b, off, none⟩ → S b) : SlAt B ad cs := by
  rcases hl with hl | ⟨b, off, rfl, hb, hc⟩
  · exact .inl hl
  · by_cases hz : cs = []
    · exact .inl hz
    · exact .inr ⟨b, off, rfl, Nat.lt_of_lt_of_le hb h.size, fun j u hu => h.cell (hc j u hu) (hs hz b off rfl)⟩
theorem ownFrom_keep {β : Type} {B : Nat} {S : Nat → Prop} {w0 : World} (hs : ∀ k, S k → k < B ∨ w0.heap.size ≤ k) : OwnFrom B (fun (_ : β) W => Keep S w0 W) := fun _ W W' row h hg hr =>
  ⟨hg.os.trans h.os, hg.tape.trans h.tape, hg.output.trans h.output, Nat.le_trans h.size hg.size, fun k hk hl => (hg.block k (Nat.lt_of_lt_of_le hl h.size) (fun e => by have := (hr k e.symm).1; rcases hs k hk with h | h <;> omega)).trans (h.block k hk hl)⟩

/-- What is said abides whatever is done to the blocks from B on. -/
def AnyFrom {β : Type} (B : Nat) (I : β → World → Prop) : Prop := ∀ s W W' row, I s W → W.grownBy W' row → (∀ r, row = some r → B ≤ r) → I s W'
section
variable {β : Type} {B : Nat} {I I' : β → World → Prop}
theorem AnyFrom.from (h : AnyFrom B I) : OwnFrom B I := fun s W W' row hs hg hr => h s W W' row hs hg (fun r e => (hr r e).1)
theorem AnyFrom.mono (h : AnyFrom B I) {B' : Nat} (hB : B ≤ B') : AnyFrom B' I := fun s W W' row hs hg hr => h s W W' row hs hg (fun r e => Nat.le_trans hB (hr r e))
theorem AnyFrom.alloc (h : AnyFrom B I) {s : β} {W : World} (o : Obj) (hs : I s W) : I s (W.alloc o) := h s W _ none hs (World.grownBy_alloc W o none) (fun r e => by cases e)
theorem AnyFrom.putObj (h : AnyFrom B I) {s : β} {W : World} {l : Nat} (o : Obj) (hs : I s W) (hB : B ≤ l) : I s (W.putObj l o) := h s W _ (some l) hs (grownBy_putObj' W l o) (fun r e => by cases e; exact hB)
theorem AnyFrom.setCell (h : AnyFrom B I) {s : β} {W : World} {b : Nat} (v : Value) (o : Nat) (hs : I s W) (hB : B ≤ b) : I s (W.setCell ⟨b, o, none⟩ v) :=
  h s W _ (some b) hs ⟨rfl, rfl, rfl, by simp, fun k _ hk => Below.heap_setCell W ⟨b, o, none⟩ v k (fun e => hk (by rw [e]))⟩ (fun r e => by cases e; exact hB)
theorem AnyFrom.grow (h : AnyFrom B I) {s : β} {W W' : World} (hs : I s W) (hb : Below W.heap.size W W') : I s W' := h s W _ none hs ⟨hb.os, hb.tape, hb.output, hb.size, fun k hk _ => hb.block k hk⟩ (fun r e => by cases e)
theorem AnyFrom.and (h : AnyFrom B I) (h' : AnyFrom B I') : AnyFrom B (fun s W => I s W ∧ I' s W) := fun s W W' row hs hg hr => ⟨h s W W' row hs.1 hg hr, h' s W W' row hs.2 hg hr⟩
theorem any_own {H : β → List Block} (hH : ∀ s p, p ∈ H s → p.1 < B) : AnyFrom B (fun s W => Own (H s) W) := fun s W W' row h hg hr p hp =>
  (hg.block p.1 (h p hp).lt (fun e => by have := hr p.1 e.symm; have := hH s p hp; omega)).trans (h p hp)
theorem any_below {n0 : Nat} {w0 : World} (h0 : n0 ≤ w0.heap.size) (hB : n0 ≤ B) : AnyFrom B (fun (_ : β) W => Below n0 w0 W) := fun _ W W' row h hg hr => h.grown hg (Nat.le_trans h0 h.size) (fun k e => Nat.le_trans hB (hr k e))
theorem any_heap {D : Nat} {o : Obj} (hD : D < B) : AnyFrom B (fun (_ : β) W => W.heap[D]? = some o) := fun _ W W' row h hg hr => (hg.block D (Array.getElem?_eq_some_iff.1 h).1 (fun e => by have := hr D e.symm; omega)).trans h
theorem any_keep {S : Nat → Prop} {w0 : World} (hs : ∀ k, S k → k < B ∨ w0.heap.size ≤ k) : AnyFrom B (fun (_ : β) W => Keep S w0 W) := fun _ W W' row h hg hr =>
  ⟨hg.os.trans h.os, hg.tape.trans h.tape, hg.output.trans h.output, Nat.le_trans h.size hg.size, fun k hk hl => (hg.block k (Nat.lt_of_lt_of_le hl h.size) (fun e => by have := hr k e.symm; rcases hs k hk with h | h <;> omega)).trans (h.block k hk hl)⟩
theorem any_pure (p : β → Prop) : AnyFrom B (fun s (_ : World) => p s) := fun _ _ _ _ hs _ _ => hs
end
/-! ### What a function that goes over a list promises, where these blocks stay. -/
section
variable {α : Type} {P : Program}
def Seq (P : Program) (gf : Nat) (lb : Array Value) (encs : Nat → α → Array Value) (xs : List α) (S : Nat → Prop) (w0 : World) : Prop :=
  ∀ (l : Nat) (J Jx : Nat → World → Prop) (W : World), Keep S w0 W → AnyFrom W.heap.size J → AnyFrom W.heap.size Jx →
    (∀ k x W1, xs[k]? = some x → J k W1 → YieldAt Fence.wide 0 P l (encs k x) W1 fun e W' => (e = .returned (.bool true) ∧ J (k + 1) W' ∧ Keep (fun b => S b ∨ W.heap.size ≤ b) W1 W') ∨ (e = .returned (.bool false) ∧ Jx (k + 1) W' ∧ Keep (fun b => W.heap.size ≤ b) W1 W')) →
    J 0 W → Calls P gf (#[.func (.yield l) #[] #[]] ++ lb) W fun e W' => (∃ v, e = .returned v) ∧ (J xs.length W' ∨ ∃ k, k ≤ xs.length ∧ Jx k W')
/-- How a round may be left. -/
def eachPost (B : Nat) (S : Nat → Prop) (I : Nat → World → Prop) (Ix : Code → Nat → World → Prop) (k : Nat) (W : World) : Exit → Act → World → Prop
  | .normal, _, W' => Keep (fun b => S b ∨ B ≤ b) W W' ∧ I k W'
  | .ret, _, W' => Keep (fun b => B ≤ b) W W' ∧ Ix .ret k W'
  | .exit id, _, W' => Keep (fun b => B ≤ b) W W' ∧ Ix (.exit id) k W'
  | .goto t, _, W' => Keep (fun b => B ≤ b) W W' ∧ Ix (.goto t) k W'
  | .panic _, _, _ => False
  | .outgrown, _, _ => False
/-- How the loop's variables may be laid: what is then known (A) carries the round. -/
def varsPost (B : Nat) (S : Nat → Prop) (l : Nat) (P : Program) (body : Code) (I : Nat → World → Prop) (Ix : Code → Nat → World → Prop) (k : Nat) (W : World) : Act → World → Prop := fun a' W' =>
  Keep (fun b => S b ∨ B ≤ b) W W' ∧ ∃ A : World → Prop, OwnFrom B (fun (_ : Unit) V => A V) ∧ A W' ∧ ∀ V, A V → body.wpIn (Fence.wide.inRound l) 0 P (eachPost B S I Ix (k + 1) V) a' V
theorem Keep.from {S : Nat → Prop} {B : Nat} {A C : World} (h : Keep S A C) (hs : ∀ k, B ≤ k → S k) : KeepsFrom B A C := ⟨h.size, fun k o hB hk _ => (h.block k (hs k hB) (Array.getElem?_eq_some_iff.1 hk).1).trans hk⟩
theorem wp_each {g : Operand} {ps : Array Tmp} {assign body : Code} {Q : Exit → Act → World → Prop} {a : Act} {w : World} {gf : Nat} {lb : Array Value} (hg : a.eval g = .func (.func gf) #[] lb) (eg : ∀ args w, (callFunc gf args).run P w = .ok (.enter gf args) w)
    {encs : Nat → α → Array Value} {xs : List α} {w0 : World} {S : Nat → Prop} (hseq : Seq P gf lb encs xs S w0) (hS : ∀ k, S k → k < w.heap.size) (hb0 : Keep S w0 w) (hps : ∀ k x, (encs k x).size = ps.size)
    (I : Nat → World → Prop) (Ix : Code → Nat → World → Prop) (hI : AnyFrom w.heap.size I) (hIx : ∀ c, AnyFrom w.heap.size (Ix c)) (h0 : I 0 w)
    (hround : ∀ (l k : Nat) (x : α) (W : World), xs[k]? = some x → I k W → w.heap.size < l →
      assign.wpIn (Fence.wide.inRound l) 0 P (Exit.then (varsPost w.heap.size S l P body I Ix k W) (fun _ _ _ => False)) { tmps := (ps.zip (encs k x)).foldl (fun t (p, v) => t.setIfInBounds p v) a.tmps, defers := [] } W)
    (hdone : ∀ (W : World), I xs.length W → W.heap[w.heap.size]? = some (.deferred (some [])) → Q .normal { a with defers := { target := .collected w.heap.size, args := #[] } :: a.defers } W)
    (hstop : ∀ (c : Code) (k : Nat) (W : World), k ≤ xs.length → Ix c k W → W.heap[w.heap.size]? = some (.deferred (some [])) → c.wp P Q { a with defers := { target := .collected w.heap.size, args := #[] } :: a.defers } W) :
    (Code.rangeFunc g ps assign body).wp P Q a w := by
  refine (wpIn_wide (n := 0)).1 (wpIn_rangeFunc fun fn hfn => ?_)
  obtain ⟨rec, hrec⟩ : ∃ rec : LoopState → Option Code → Loop, rec = fun st pe => { state := st, pending := pe, fn, tmps := a.tmps, params := ps, assign, body, defers := w.heap.size } := ⟨_, rfl⟩
  -- the two blocks that the statement itself lays
  have hz1 : (w.alloc (.deferred (some []))).heap.size = w.heap.size + 1 := World.size_alloc _ _
  have hb1 := (World.below_alloc w (.deferred (some []))).trans ((World.below_alloc (w.alloc (.deferred (some []))) (.loop (rec .ready none))).mono (by rw [hz1]; omega))
  have hL1 : ((w.alloc (.deferred (some []))).alloc (.loop (rec .ready none))).heap[w.heap.size + 1]? = some (.loop (rec .ready none)) := by
    have := World.alloc_heap_new (w.alloc (.deferred (some []))) (.loop (rec .ready none)); rwa [hz1] at this
  have hK1 : ((w.alloc (.deferred (some []))).alloc (.loop (rec .ready none))).heap[w.heap.size]? = some (.deferred (some [])) :=
    (Below.heap_alloc _ _ _ (by rw [hz1]; omega)).trans (World.alloc_heap_new w _)
  have hz2 : ((w.alloc (.deferred (some []))).alloc (.loop (rec .ready none))).heap.size = w.heap.size + 2 := by rw [World.size_alloc, hz1]
  refine ⟨w.heap.size + 1, [{ target := .collected w.heap.size, args := #[] }], ((w.alloc (.deferred (some []))).alloc (.loop (rec .ready none))), { target := .fn (.func gf) lb, args := #[.func (.yield (w.heap.size + 1)) #[] #[]] }, ((w.alloc (.deferred (some []))).alloc (.loop (rec .ready none))), gf,
    #[.func (.yield (w.heap.size + 1)) #[] #[]] ++ lb, ((w.alloc (.deferred (some []))).alloc (.loop (rec .ready none))), by rw [hrec]; exact run_enterLoop_outer _ _ _ _ _, by simp only [resolve, hg]; simp [go_sem], fun _ _ => trivial, by simp [invoke, go_sem, eg], fun h => (by simp [Fence.wide] at h), callsIn_wide.2 ?_⟩
  -- what holds between two rounds, and where one has said that no more is wanted
  have book : ∀ {A B : World} {row : Option Nat} {k : Nat} {o : Obj}, A.grownBy B row → (∀ r, row = some r → w.heap.size + 2 ≤ r) → k < w.heap.size + 2 → A.heap[k]? = some o → B.heap[k]? = some o := fun hg hr hk ho =>
    (hg.block _ (Array.getElem?_eq_some_iff.1 ho).1 (fun e => by have := hr _ e.symm; omega)).trans ho
  refine ((hseq (w.heap.size + 1)
    (fun k W => I k W ∧ W.heap[w.heap.size + 1]? = some (.loop (rec .ready none)) ∧ W.heap[w.heap.size]? = some (.deferred (some [])))
    (fun k W => ∃ c, Ix c k W ∧ W.heap[w.heap.size + 1]? = some (.loop (rec .done (some c))) ∧ W.heap[w.heap.size]? = some (.deferred (some [])))
    _ (hb0.below hb1)
    (fun k A B row hs hg' hr => ⟨hI k A B row hs.1 hg' (fun r e => by have := hr r e; rw [hz2] at this; omega), book hg' (fun r e => by rw [← hz2]; exact hr r e) (by omega) hs.2.1, book hg' (fun r e => by rw [← hz2]; exact hr r e) (by omega) hs.2.2⟩)
    (fun k A B row hs hg' hr => by
      obtain ⟨c, h1, h2, h3⟩ := hs
      exact ⟨c, hIx c k A B row h1 hg' (fun r e => by have := hr r e; rw [hz2] at this; omega), book hg' (fun r e => by rw [← hz2]; exact hr r e) (by omega) h2, book hg' (fun r e => by rw [← hz2]; exact hr r e) (by omega) h3⟩)
    ?_ ⟨hI.alloc _ (hI.alloc _ h0), hL1, hK1⟩)).mono ?_
  · -- one round
    rintro k x W hx ⟨hi, hl, hk⟩
    have hy := run_yield (P := P) (args := encs k x) hl (by rw [hrec]; exact hps k x)
    rw [hrec] at hy
    refine ⟨fn, _, assign, body, hy, roundIn_of_wpIn hfn (wpIn_mono (hround _ k x W hx hi (Nat.lt_succ_self _)) ?_)⟩
    rintro e a' Wa hp
    cases e with
    | normal =>
      obtain ⟨hkb, A, hA, hAW, hbody⟩ := hp
      have hkf : KeepsFrom w.heap.size W Wa := hkb.from (fun k hk => .inr hk)
      have hl1 := hkf.same _ _ (by omega) hl rfl
      have hk1 := hkf.same _ _ (Nat.le_refl _) hk rfl
      refine ⟨_, run_beginRound hl1 (by rw [hrec]), ?_⟩
      have hl2 : (Wa.putObj (w.heap.size + 1) (.loop { rec .ready none with state := .busy })).heap[w.heap.size + 1]? = some (.loop { rec .ready none with state := .busy }) := World.putObj_heap_same (Array.getElem?_eq_some_iff.1 hl1).1
      have hk2 : (Wa.putObj (w.heap.size + 1) (.loop { rec .ready none with state := .busy })).heap[w.heap.size]? = some (.deferred (some [])) := (World.putObj_heap_other (by omega)).trans hk1
      have put : ∀ (V : World) (o : Obj), Keep (fun b => S b ∨ ((w.alloc (.deferred (some []))).alloc (.loop (rec .ready none))).heap.size ≤ b) V (V.putObj (w.heap.size + 1) o) := fun V o =>
        (Keep.refl _ V).put _ o (.inl (fun h => h.elim (fun h => by have := hS _ h; omega) (fun h => by rw [hz2] at h; omega)))
      have less : ∀ {X Y : World}, Keep (fun b => S b ∨ w.heap.size ≤ b) X Y → Keep (fun b => S b ∨ ((w.alloc (.deferred (some []))).alloc (.loop (rec .ready none))).heap.size ≤ b) X Y := fun h => h.mono (fun k hk => hk.imp id (fun h => by rw [hz2] at h; omega))
      have out : ∀ (jump : Option Code) (V : World), Keep (fun b => w.heap.size ≤ b) (Wa.putObj (w.heap.size + 1) (.loop { rec .ready none with state := .busy })) V → Keep (fun b => ((w.alloc (.deferred (some []))).alloc (.loop (rec .ready none))).heap.size ≤ b) W (V.putObj (w.heap.size + 1) (.loop (rec .done jump))) := fun jump V hv =>
        (((less hkb).trans (put Wa _)).mono (fun k hk => .inr hk)).trans ((hv.mono (fun k hk => by rw [hz2] at hk; omega)).trans ((put V _).mono (fun k hk => .inr hk)))
      have fin : ∀ (jump : Option Code) (V : World), KeepsFrom w.heap.size (Wa.putObj (w.heap.size + 1) (.loop { rec .ready none with state := .busy })) V →
          (Instr.endRound (w.heap.size + 1) jump).run P V = .ok (.bool jump.isNone) (V.putObj (w.heap.size + 1) (.loop (rec (if jump.isNone then .ready else .done) jump))) ∧
          V.heap[w.heap.size + 1]? = some (.loop { rec .ready none with state := .busy }) ∧
          (V.putObj (w.heap.size + 1) (.loop (rec (if jump.isNone then .ready else .done) jump))).heap[w.heap.size + 1]? = some (.loop (rec (if jump.isNone then .ready else .done) jump)) ∧
          (V.putObj (w.heap.size + 1) (.loop (rec (if jump.isNone then .ready else .done) jump))).heap[w.heap.size]? = some (.deferred (some [])) := fun jump V hv => by
        have hl3 := hv.same _ _ (by omega) hl2 rfl
        have := run_endRound (P := P) jump hl3
        rw [hrec] at this ⊢
        exact ⟨this, by rw [hrec] at hl3; exact hl3, World.putObj_heap_same (Array.getElem?_eq_some_iff.1 hl3).1, (World.putObj_heap_other (by omega)).trans (hv.same _ _ (Nat.le_refl _) hk2 rfl)⟩
      refine wpIn_mono (hbody _ (hA.putObj (s := ()) _ hAW (by omega) hl1 rfl)) ?_
      rintro e a3 V hp
      cases e with
      | normal =>
        obtain ⟨h1, h3⟩ := hp
        obtain ⟨hr, q1, q2, q3⟩ := fin none V (h1.from (fun k hk => .inr hk))
        exact ⟨_, _, hr, .inl ⟨rfl, ⟨hI.putObj _ h3 (by omega), q2, q3⟩, (less hkb).trans ((put Wa _).trans ((less h1).trans (put V _)))⟩⟩
      | ret =>
        obtain ⟨hr, q1, q2, q3⟩ := fin (some .ret) V (hp.1.from (fun k hk => hk))
        exact ⟨_, _, hr, .inr ⟨rfl, ⟨.ret, (hIx _).putObj _ hp.2 (by omega), q2, q3⟩, out _ V hp.1⟩⟩
      | exit id =>
        obtain ⟨hr, q1, q2, q3⟩ := fin (some (.exit id)) V (hp.1.from (fun k hk => hk))
        exact ⟨_, _, hr, .inr ⟨rfl, ⟨.exit id, (hIx _).putObj _ hp.2 (by omega), q2, q3⟩, out _ V hp.1⟩⟩
      | goto t =>
        obtain ⟨hr, q1, q2, q3⟩ := fin (some (.goto t)) V (hp.1.from (fun k hk => hk))
        exact ⟨_, _, hr, .inr ⟨rfl, ⟨.goto t, (hIx _).putObj _ hp.2 (by omega), q2, q3⟩, out _ V hp.1⟩⟩
      | panic ch => exact hp.elim
      | outgrown => exact hp.elim
    | ret => exact hp.elim
    | exit id => exact hp.elim
    | goto t => exact hp.elim
    | panic ch => exact hp.elim
    | outgrown => exact hp.elim
  · -- behind the function
    rintro e W2 ⟨⟨v, rfl⟩, (⟨hi, hl, hk⟩ | ⟨k, hk0, c, hi, hl, hk⟩)⟩
    · exact ⟨none, _, by have := run_endLoop (P := P) hl (by rw [hrec]; simp); rw [hrec] at this; exact this, hdone _ (hI.putObj _ hi (by omega)) ((World.putObj_heap_other (by omega)).trans hk)⟩
    · exact ⟨some c, _, by have := run_endLoop (P := P) hl (by rw [hrec]; simp); rw [hrec] at this; exact this, wpIn_wide.2 (hstop c k _ hk0 ((hIx c).putObj _ hi (by omega)) ((World.putObj_heap_other (by omega)).trans hk))⟩
end

theorem ownFrom_blk {β : Type} {B b : Nat} {c : Array Value} {t : TypeId} : OwnFrom B (fun (_ : β) W => Blk W b c t) := fun _ W W' row h hg hr =>
  (hg.block b h.lt (fun e => by obtain ⟨_, o, ho, hc⟩ := hr b e.symm; rw [show W.heap[b]? = _ from h] at ho; cases ho; cases hc)).trans h

section
variable {α : Type} {P : Program}
/-- Where the loop is left early by its own exit alone. -/
theorem wp_each_block {id : Nat} {g : Operand} {ps : Array Tmp} {assign body : Code} {Q : Exit → Act → World → Prop} {a : Act} {w : World} {gf : Nat} {lb : Array Value} (hg : a.eval g = .func (.func gf) #[] lb) (eg : ∀ args w, (callFunc gf args).run P w = .ok (.enter gf args) w)
    {encs : Nat → α → Array Value} {xs : List α} {w0 : World} {S : Nat → Prop} (hseq : Seq P gf lb encs xs S w0) (hS : ∀ k, S k → k < w.heap.size) (hb0 : Keep S w0 w) (hps : ∀ k x, (encs k x).size = ps.size)
    (I Ix : Nat → World → Prop) (hI : AnyFrom w.heap.size I) (hIx : AnyFrom w.heap.size Ix) (h0 : I 0 w)
    (hround : ∀ (l k : Nat) (x : α) (W : World), xs[k]? = some x → I k W → w.heap.size < l →
      assign.wpIn (Fence.wide.inRound l) 0 P (Exit.then (varsPost w.heap.size S l P body I (fun c k W => c = .exit id ∧ Ix k W) k W) (fun _ _ _ => False)) { tmps := (ps.zip (encs k x)).foldl (fun t (p, v) => t.setIfInBounds p v) a.tmps, defers := [] } W)
    (hend : ∀ (k : Nat) (W : World), (k = xs.length ∧ I k W) ∨ (k ≤ xs.length ∧ Ix k W) → W.heap[w.heap.size]? = some (.deferred (some [])) → Q .normal { a with defers := { target := .collected w.heap.size, args := #[] } :: a.defers } W) :
    (Code.rangeFunc g ps assign body).wp P (Exit.inBlock id Q) a w :=
  wp_each hg eg hseq hS hb0 hps I (fun c k W => c = .exit id ∧ Ix k W) hI (fun c k W W' row ⟨h, hj⟩ hg hr => ⟨h, hIx k W W' row hj hg hr⟩) h0 hround
    (fun W hi hD => hend _ W (.inl ⟨rfl, hi⟩) hD)
    (fun c k W hk ⟨hc, hi⟩ hD => by
      subst hc
      refine wp_exit ?_
      show (if id = id then _ else _)
      rw [if_pos rfl]
      exact hend k W (.inr ⟨hk, hi⟩) hD)
theorem wp_name {c : Code} {Q : Exit → Act → World → Prop} {a : Act} {w : World} (h : ∀ W, W = w → c.wp P Q a W) : c.wp P Q a w := h w rfl
theorem ownFrom_own {β : Type} {B : Nat} {H : β → List Block} : OwnFrom B (fun s W => Own (H s) W) := fun s W W' row h hg hr p hp => ownFrom_blk (β := Unit) () W W' row (h p hp) hg hr
theorem ownFrom_heap {β : Type} {B D : Nat} {o : Obj} (hD : D < B) : OwnFrom B (fun (_ : β) W => W.heap[D]? = some o) := fun _ W W' row h hg hr =>
  (hg.block D (Array.getElem?_eq_some_iff.1 h).1 (fun e => by have := (hr D e.symm).1; omega)).trans h
/-- What a range's rounds know: these blocks; what lay below; the marks of ranges ahead; what the function that goes over it reads. -/
def EI (H : Nat → List Block) (n0 : Nat) (w0 : World) (Ds : List Nat) (S : Nat → Prop) (w1 : World) (k : Nat) (V : World) : Prop := Own (H k) V ∧ Below n0 w0 V ∧ (∀ D ∈ Ds, V.heap[D]? = some (.deferred (some []))) ∧ Keep S w1 V
theorem EI.any {H : Nat → List Block} {n0 B : Nat} {w0 w1 : World} {Ds : List Nat} {S : Nat → Prop} (hH : ∀ k p, p ∈ H k → p.1 < B) (hD : ∀ D ∈ Ds, D < B) (h0 : n0 ≤ w0.heap.size) (hB : n0 ≤ B) (hS : ∀ k, S k → k < B) : AnyFrom B (EI H n0 w0 Ds S w1) := fun k W W' row ⟨h1, h2, h3, h4⟩ hg hr =>
  ⟨any_own (β := Nat) hH k W W' row h1 hg hr, any_below (β := Unit) h0 hB () W W' row h2 hg hr, fun D hd => any_heap (β := Unit) (hD D hd) () W W' row (h3 D hd) hg hr, any_keep (β := Unit) (fun k hk => .inl (hS k hk)) () W W' row h4 hg hr⟩
end

/-! ### The way out of a function that holds such ranges. -/
section
variable {P : Program}
theorem calls_marks {f : FuncId} {fn : Func} {c : Code} {args : Array Value} {w : World} {R : Ending → World → Prop} (hf : P.funcs[f]? = some fn) (hb : fn.body = some c)
    (h : c.wp P (bodyPostM Fence.wide 0 P fn R) { tmps := args ++ Array.replicate (fn.ntmps - args.size) undef, defers := [] } w) : Calls P f args w R :=
  (callsIn_wide (n := 0)).1 (callsIn_of_wp_marks hf hb trivial (wpIn_wide.2 h) rfl)
theorem callR {f : FuncId} {args : Array Value} {w : World} {R : Ending → World → Prop} (l : Nat) (h : Calls P f args w R) : CallsIn (Fence.wide.inRound l) 0 P f args w R := CallsIn.inRound l (callsIn_wide.2 h)
theorem ret_mark1 {fn : Func} {tmps : Array Value} {R : Ending → World → Prop} {W : World} {D : Nat} {v : Value} (hK : W.heap[D]? = some (.deferred (some []))) (hv : (results fn tmps).run P (W.putObj D (.deferred none)) = .ok v (W.putObj D (.deferred none))) (h : R (.returned v) (W.putObj D (.deferred none))) :
    bodyPostM Fence.wide 0 P fn R .ret { tmps := tmps, defers := [{ target := .collected D, args := #[] }] } W :=
  ⟨by simp, .inl ⟨_, _, rfl, run_takeDeferred hK, ⟨v, hv, h⟩⟩⟩
theorem end_mark1 {fn : Func} {tmps : Array Value} {R : Ending → World → Prop} {W : World} {D : Nat} {v : Value} (hK : W.heap[D]? = some (.deferred (some []))) (hv : (results fn tmps).run P (W.putObj D (.deferred none)) = .ok v (W.putObj D (.deferred none))) (h : R (.returned v) (W.putObj D (.deferred none))) :
    bodyPostM Fence.wide 0 P fn R .normal { tmps := tmps, defers := [{ target := .collected D, args := #[] }] } W :=
  ⟨by simp, .inl ⟨_, _, rfl, run_takeDeferred hK, ⟨v, hv, h⟩⟩⟩
theorem ret_mark2 {fn : Func} {tmps : Array Value} {R : Ending → World → Prop} {W : World} {D E : Nat} {v : Value} (hK : W.heap[D]? = some (.deferred (some []))) (hE : W.heap[E]? = some (.deferred (some []))) (hne : E ≠ D)
    (hv : (results fn tmps).run P ((W.putObj E (.deferred none)).putObj D (.deferred none)) = .ok v ((W.putObj E (.deferred none)).putObj D (.deferred none))) (h : R (.returned v) ((W.putObj E (.deferred none)).putObj D (.deferred none))) :
    bodyPostM Fence.wide 0 P fn R .ret { tmps := tmps, defers := [{ target := .collected E, args := #[] }, { target := .collected D, args := #[] }] } W :=
  ⟨by simp, .inl ⟨_, _, rfl, run_takeDeferred hE, ⟨by simp, .inl ⟨_, _, rfl, run_takeDeferred ((World.putObj_heap_other (Ne.symm hne)).trans hK), ⟨v, hv, h⟩⟩⟩⟩⟩
theorem ret_mark0 {fn : Func} {tmps : Array Value} {R : Ending → World → Prop} {W : World} {v : Value} (hv : (results fn tmps).run P W = .ok v W) (h : R (.returned v) W) :
    bodyPostM Fence.wide 0 P fn R .ret { tmps := tmps, defers := [] } W := ⟨v, hv, h⟩
theorem Blk.put {w : World} {b : Nat} {c : Array Value} {t : TypeId} (h : Blk w b c t) {D : Nat} (o : Obj) (hne : b ≠ D) : Blk (w.putObj D o) b c t := (World.putObj_heap_other hne).trans h
theorem Below.put {n : Nat} {w w' : World} (h : Below n w w') {D : Nat} (o : Obj) (hD : n ≤ D) : Below n w (w'.putObj D o) :=
  h.trans ⟨rfl, rfl, rfl, by simp [World.putObj], fun k hk => World.putObj_heap_other (by omega)⟩
theorem KeepsOthers.below {w w' : World} (h : Below w.heap.size w w') : KeepsOthers w w' := ⟨h.size, fun k o hk _ => (h.block k (Array.getElem?_eq_some_iff.1 hk).1).trans hk⟩
theorem ownFrom_mono {β : Type} {B B' : Nat} {I : β → World → Prop} (h : OwnFrom B I) (hB : B ≤ B') : OwnFrom B' I := fun s W W' row hs hg hr => h s W W' row hs hg (fun r e => ⟨Nat.le_trans hB (hr r e).1, (hr r e).2⟩)
end
end Go.Proofs.Ytcfomhnfhalmaaa
