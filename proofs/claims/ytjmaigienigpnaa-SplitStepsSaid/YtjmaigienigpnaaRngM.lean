/- Ranges over functions that write a variable of their own between rounds that was laid ahead of the range (a captured one). No program of its own. No condition. -/
import Derived.Test.YtjmaigienigpnaaRngB
set_option linter.unusedVariables false
set_option linter.unusedSimpArgs false
namespace Go.Proofs.Ytjmaigienigpnaa
open Go.RowKit

/-- What is said abides whatever is done to the blocks from B on, and to these. -/
def AnyOn {β : Type} (M : Nat → Prop) (B : Nat) (I : β → World → Prop) : Prop := ∀ s W W' row, I s W → W.grownBy W' row → (∀ r, row = some r → B ≤ r ∨ M r) → I s W'
section
variable {β : Type} {M : Nat → Prop} {B : Nat} {I I' : β → World → Prop}
theorem AnyOn.from (h : AnyOn M B I) : AnyFrom B I := fun s W W' row hs hg hr => h s W W' row hs hg (fun r e => .inl (hr r e))
theorem AnyOn.mono (h : AnyOn M B I) {B' : Nat} (hB : B ≤ B') : AnyOn M B' I := fun s W W' row hs hg hr => h s W W' row hs hg (fun r e => (hr r e).imp (Nat.le_trans hB) id)
theorem AnyOn.alloc (h : AnyOn M B I) {s : β} {W : World} (o : Obj) (hs : I s W) : I s (W.alloc o) := h.from.alloc o hs
theorem AnyOn.putObj (h : AnyOn M B I) {s : β} {W : World} {l : Nat} (o : Obj) (hs : I s W) (hB : B ≤ l) : I s (W.putObj l o) := h.from.putObj o hs hB
theorem AnyOn.grow (h : AnyOn M B I) {s : β} {W W' : World} (hs : I s W) (hb : Below W.heap.size W W') : I s W' := h.from.grow hs hb
theorem AnyOn.setOwn (h : AnyOn M B I) {s : β} {W : World} {b : Nat} (v : Value) (o : Nat) (hs : I s W) (hB : M b) : I s (W.setCell ⟨b, o, none⟩ v) :=
  h s W _ (some b) hs ⟨rfl, rfl, rfl, by simp, fun k _ hk => Below.heap_setCell W ⟨b, o, none⟩ v k (fun e => hk (by rw [e]))⟩ (fun r e => by cases e; exact .inr hB)
theorem AnyOn.and (h : AnyOn M B I) (h' : AnyOn M B I') : AnyOn M B (fun s W => I s W ∧ I' s W) := fun s W W' row hs hg hr => ⟨h s W W' row hs.1 hg hr, h' s W W' row hs.2 hg hr⟩
theorem anyOn_of {B' : Nat} (h : AnyFrom B' I) (hB : B' ≤ B) (hM : ∀ k, M k → B' ≤ k) : AnyOn M B I := fun s W W' row hs hg hr => h s W W' row hs hg (fun r e => (hr r e).elim (Nat.le_trans hB) (hM r))
end
section
variable {α : Type} {P : Program}
def SeqM (P : Program) (gf : Nat) (lb : Array Value) (encs : Nat → α → Array Value) (xs : List α) (S M : Nat → Prop) (w0 : World) : Prop :=
  ∀ (l : Nat) (J Jx : Nat → World → Prop) (W : World), Keep S w0 W → AnyOn M W.heap.size J → AnyOn M W.heap.size Jx →
    (∀ k x W1, xs[k]? = some x → J k W1 → YieldAt Fence.wide 0 P l (encs k x) W1 fun e W' => (e = .returned (.bool true) ∧ J (k + 1) W' ∧ Keep (fun b => S b ∨ W.heap.size ≤ b) W1 W') ∨ (e = .returned (.bool false) ∧ Jx (k + 1) W' ∧ Keep (fun b => W.heap.size ≤ b) W1 W')) →
    J 0 W → Calls P gf (#[.func (.yield l) #[] #[]] ++ lb) W fun e W' => (∃ v, e = .returned v) ∧ (J xs.length W' ∨ ∃ k, k ≤ xs.length ∧ Jx k W')
theorem wp_each_own {g : Operand} {ps : Array Tmp} {assign body : Code} {Q : Exit → Act → World → Prop} {a : Act} {w : World} {gf : Nat} {lb : Array Value} (hg : a.eval g = .func (.func gf) #[] lb) (eg : ∀ args w, (callFunc gf args).run P w = .ok (.enter gf args) w)
    {encs : Nat → α → Array Value} {xs : List α} {w0 : World} {S M : Nat → Prop} (hseq : SeqM P gf lb encs xs S M w0) (hM : ∀ k, M k → k < w.heap.size) (hS : ∀ k, S k → k < w.heap.size) (hb0 : Keep S w0 w) (hps : ∀ k x, (encs k x).size = ps.size)
    (I : Nat → World → Prop) (Ix : Code → Nat → World → Prop) (hI : AnyOn M w.heap.size I) (hIx : ∀ c, AnyOn M w.heap.size (Ix c)) (h0 : I 0 w)
    (hround : ∀ (l k : Nat) (x : α) (W : World), xs[k]? = some x → I k W → w.heap.size < l →
      assign.wpIn (Fence.wide.inRound l) 0 P (Exit.then (varsPost w.heap.size S l P body I Ix k W) (fun _ _ _ => False)) { tmps := (ps.zip (encs k x)).foldl (fun t (p, v) => t.setIfInBounds p v) a.tmps, defers := [] } W)
    (hdone : ∀ (W : World), I xs.length W → W.heap[w.heap.size]? = some (.deferred (some [])) → Q .normal { a with defers := { target := .collected w.heap.size, args := #[] } :: a.defers } W)
    (hstop : ∀ (c : Code) (k : Nat) (W : World), k ≤ xs.length → Ix c k W → W.heap[w.heap.size]? = some (.deferred (some [])) → c.wp P Q { a with defers := { target := .collected w.heap.size, args := #[] } :: a.defers } W) :
    (Code.rangeFunc g ps assign body).wp P Q a w := by
  refine (wpIn_wide (n := 0)).1 (wpIn_rangeFunc fun fn hfn => ?_)
  obtain ⟨rec, hrec⟩ : ∃ rec : LoopState → Option Code → Loop, rec = fun st pe => { state := st, pending := pe, fn, tmps := a.tmps, params := ps, assign, body, defers := w.heap.size } := ⟨_, rfl⟩
  -- the two blocks that the statement itself lays
  have hz1 : (w.alloc (.deferred (some []))).heap.size = w.heap.size + 1 := World.size_alloc _ _
  have hb1 := (World.below_alloc w (.deferred (some []))).trans ((World.below_alloc (w.alloc (.deferred (some []))) (.loop (rec .ready none))).mono (by rw [hz1]; omega))
  have hL1 : ((w.alloc (.deferred (some []))).alloc (.loop (rec .ready none))).heap[w.heap.size + 1]? = some (.loop (rec .ready none)) := by
    have := World.alloc_heap_new (w.alloc (.deferred (some []))) (.loop (rec .ready none)); rwa [hz1] at this
  have hK1 : ((w.alloc (.deferred (some []))).alloc (.loop (rec .ready none))).heap[w.heap.size]? = some (.deferred (some [])) :=
    (Below.heap_alloc _ _ _ (by rw [hz1]; omega)).trans (World.alloc_heap_new w _)
  have hz2 : ((w.alloc (.deferred (some []))).alloc (.loop (rec .ready none))).heap.size = w.heap.size + 2 := by rw [World.size_alloc, hz1]
  refine ⟨w.heap.size + 1, [{ target := .collected w.heap.size, args := #[] }], ((w.alloc (.deferred (some []))).alloc (.loop (rec .ready none))), { target := .fn (.func gf) lb, args := #[.func (.yield (w.heap.size + 1)) #[] #[]] }, ((w.alloc (.deferred (some []))).alloc (.loop (rec .ready none))), gf,
    #[.func (.yield (w.heap.size + 1)) #[] #[]] ++ lb, ((w.alloc (.deferred (some []))).alloc (.loop (rec .ready none))), by rw [hrec]; exact run_enterLoop_outer _ _ _ _ _, by simp only [resolve, hg]; simp [go_sem], fun _ _ => trivial, by simp [invoke, go_sem, eg], fun h => (by simp [Fence.wide] at h), callsIn_wide.2 ?_⟩
  -- what holds between two rounds, and where one has said that no more is wanted
  have book : ∀ {A B : World} {row : Option Nat} {k : Nat} {o : Obj}, A.grownBy B row → (∀ r, row = some r → w.heap.size + 2 ≤ r ∨ M r) → w.heap.size ≤ k → k < w.heap.size + 2 → A.heap[k]? = some o → B.heap[k]? = some o := fun hg hr hk0 hk ho =>
    (hg.block _ (Array.getElem?_eq_some_iff.1 ho).1 (fun e => by rcases hr _ e.symm with h | h; · omega
                                                                 · have := hM _ h; omega)).trans ho
  refine ((hseq (w.heap.size + 1)
    (fun k W => I k W ∧ W.heap[w.heap.size + 1]? = some (.loop (rec .ready none)) ∧ W.heap[w.heap.size]? = some (.deferred (some [])))
    (fun k W => ∃ c, Ix c k W ∧ W.heap[w.heap.size + 1]? = some (.loop (rec .done (some c))) ∧ W.heap[w.heap.size]? = some (.deferred (some [])))
    _ (hb0.below hb1)
    (fun k A B row hs hg' hr => ⟨hI k A B row hs.1 hg' (fun r e => (hr r e).imp (fun h => by rw [hz2] at h; omega) id), book hg' (fun r e => by rw [← hz2]; exact hr r e) (by omega) (by omega) hs.2.1, book hg' (fun r e => by rw [← hz2]; exact hr r e) (by omega) (by omega) hs.2.2⟩)
    (fun k A B row hs hg' hr => by
      obtain ⟨c, h1, h2, h3⟩ := hs
      exact ⟨c, hIx c k A B row h1 hg' (fun r e => (hr r e).imp (fun h => by rw [hz2] at h; omega) id), book hg' (fun r e => by rw [← hz2]; exact hr r e) (by omega) (by omega) h2, book hg' (fun r e => by rw [← hz2]; exact hr r e) (by omega) (by omega) h3⟩)
    ?_ ⟨hI.alloc _ (hI.alloc _ h0), hL1, hK1⟩)).mono ?_
  · -- one round
    rintro k x W hx ⟨hi, hl, hk⟩
    have hy := run_yield (P := P) (args := encs k x) hl (by rw [hrec]; exact hps k x)
    rw [hrec] at hy
    refine ⟨fn, _, assign, body, hy, roundIn_of_wpIn hfn (wpIn_mono (hround _ k x W hx hi (Nat.lt_succ_self _)) ?_)⟩
    rintro e a' Wa hp
    cases e with
    | normal =>
      obtain ⟨hkb, A, hA, hAW, hbody⟩ := hp
      have hkf : KeepsFrom w.heap.size W Wa := hkb.from (fun k hk => .inr hk)
      have hl1 := hkf.same _ _ (by omega) hl rfl
      have hk1 := hkf.same _ _ (Nat.le_refl _) hk rfl
      refine ⟨_, run_beginRound hl1 (by rw [hrec]), ?_⟩
      have hl2 : (Wa.putObj (w.heap.size + 1) (.loop { rec .ready none with state := .busy })).heap[w.heap.size + 1]? = some (.loop { rec .ready none with state := .busy }) := World.putObj_heap_same (Array.getElem?_eq_some_iff.1 hl1).1
      have hk2 : (Wa.putObj (w.heap.size + 1) (.loop { rec .ready none with state := .busy })).heap[w.heap.size]? = some (.deferred (some [])) := (World.putObj_heap_other (by omega)).trans hk1
      have put : ∀ (V : World) (o : Obj), Keep (fun b => S b ∨ ((w.alloc (.deferred (some []))).alloc (.loop (rec .ready none))).heap.size ≤ b) V (V.putObj (w.heap.size + 1) o) := fun V o =>
        (Keep.refl _ V).put _ o (.inl (fun h => h.elim (fun h => by have := hS _ h; omega) (fun h => by rw [hz2] at h; omega)))
      have less : ∀ {X Y : World}, Keep (fun b => S b ∨ w.heap.size ≤ b) X Y → Keep (fun b => S b ∨ ((w.alloc (.deferred (some []))).alloc (.loop (rec .ready none))).heap.size ≤ b) X Y := fun h => h.mono (fun k hk => hk.imp id (fun h => by rw [hz2] at h; omega))
      have out : ∀ (jump : Option Code) (V : World), Keep (fun b => w.heap.size ≤ b) (Wa.putObj (w.heap.size + 1) (.loop { rec .ready none with state := .busy })) V → Keep (fun b => ((w.alloc (.deferred (some []))).alloc (.loop (rec .ready none))).heap.size ≤ b) W (V.putObj (w.heap.size + 1) (.loop (rec .done jump))) := fun jump V hv =>
        (((less hkb).trans (put Wa _)).mono (fun k hk => .inr hk)).trans ((hv.mono (fun k hk => by rw [hz2] at hk; omega)).trans ((put V _).mono (fun k hk => .inr hk)))
      have fin : ∀ (jump : Option Code) (V : World), KeepsFrom w.heap.size (Wa.putObj (w.heap.size + 1) (.loop { rec .ready none with state := .busy })) V →
          (Instr.endRound (w.heap.size + 1) jump).run P V = .ok (.bool jump.isNone) (V.putObj (w.heap.size + 1) (.loop (rec (if jump.isNone then .ready else .done) jump))) ∧
          V.heap[w.heap.size + 1]? = some (.loop { rec .ready none with state := .busy }) ∧
          (V.putObj (w.heap.size + 1) (.loop (rec (if jump.isNone then .ready else .done) jump))).heap[w.heap.size + 1]? = some (.loop (rec (if jump.isNone then .ready else .done) jump)) ∧
          (V.putObj (w.heap.size + 1) (.loop (rec (if jump.isNone then .ready else .done) jump))).heap[w.heap.size]? = some (.deferred (some [])) := fun jump V hv => by
        have hl3 := hv.same _ _ (by omega) hl2 rfl
        have := run_endRound (P := P) jump hl3
        rw [hrec] at this ⊢
        exact ⟨this, by rw [hrec] at hl3; exact hl3, World.putObj_heap_same (Array.getElem?_eq_some_iff.1 hl3).1, (World.putObj_heap_other (by omega)).trans (hv.same _ _ (Nat.le_refl _) hk2 rfl)⟩
      refine wpIn_mono (hbody _ (hA.putObj (s := ()) _ hAW (by omega) hl1 rfl)) ?_
      rintro e a3 V hp
      cases e with
      | normal =>
        obtain ⟨h1, h3⟩ := hp
        obtain ⟨hr, q1, q2, q3⟩ := fin none V (h1.from (fun k hk => .inr hk))
        exact ⟨_, _, hr, .inl ⟨rfl, ⟨hI.putObj _ h3 (by omega), q2, q3⟩, (less hkb).trans ((put Wa _).trans ((less h1).trans (put V _)))⟩⟩
      | ret =>
        obtain ⟨hr, q1, q2, q3⟩ := fin (some .ret) V (hp.1.from (fun k hk => hk))
        exact ⟨_, _, hr, .inr ⟨rfl, ⟨.ret, (hIx _).putObj _ hp.2 (by omega), q2, q3⟩, out _ V hp.1⟩⟩
      | exit id =>
        obtain ⟨hr, q1, q2, q3⟩ := fin (some (.exit id)) V (hp.1.from (fun k hk => hk))
        exact ⟨_, _, hr, .inr ⟨rfl, ⟨.exit id, (hIx _).putObj _ hp.2 (by omega), q2, q3⟩, out _ V hp.1⟩⟩
      | goto t =>
        obtain ⟨hr, q1, q2, q3⟩ := fin (some (.goto t)) V (hp.1.from (fun k hk => hk))
        exact ⟨_, _, hr, .inr ⟨rfl, ⟨.goto t, (hIx _).putObj _ hp.2 (by omega), q2, q3⟩, out _ V hp.1⟩⟩
      | panic ch => exact hp.elim
      | outgrown => exact hp.elim
    | ret => exact hp.elim
    | exit id => exact hp.elim
    | goto t => exact hp.elim
    | panic ch => exact hp.elim
    | outgrown => exact hp.elim
  · -- behind the function
    rintro e W2 ⟨⟨v, rfl⟩, (⟨hi, hl, hk⟩ | ⟨k, hk0, c, hi, hl, hk⟩)⟩
    · exact ⟨none, _, by have := run_endLoop (P := P) hl (by rw [hrec]; simp); rw [hrec] at this; exact this, hdone _ (hI.putObj _ hi (by omega)) ((World.putObj_heap_other (by omega)).trans hk)⟩
    · exact ⟨some c, _, by have := run_endLoop (P := P) hl (by rw [hrec]; simp); rw [hrec] at this; exact this, wpIn_wide.2 (hstop c k _ hk0 ((hIx c).putObj _ hi (by omega)) ((World.putObj_heap_other (by omega)).trans hk))⟩
/-- Where the loop is left early by its own exit alone. -/
theorem wp_each_block_own {id : Nat} {g : Operand} {ps : Array Tmp} {assign body : Code} {Q : Exit → Act → World → Prop} {a : Act} {w : World} {gf : Nat} {lb : Array Value} (hg : a.eval g = .func (.func gf) #[] lb) (eg : ∀ args w, (callFunc gf args).run P w = .ok (.enter gf args) w)
    {encs : Nat → α → Array Value} {xs : List α} {w0 : World} {S M : Nat → Prop} (hseq : SeqM P gf lb encs xs S M w0) (hM : ∀ k, M k → k < w.heap.size) (hS : ∀ k, S k → k < w.heap.size) (hb0 : Keep S w0 w) (hps : ∀ k x, (encs k x).size = ps.size)
    (I Ix : Nat → World → Prop) (hI : AnyOn M w.heap.size I) (hIx : AnyOn M w.heap.size Ix) (h0 : I 0 w)
    (hround : ∀ (l k : Nat) (x : α) (W : World), xs[k]? = some x → I k W → w.heap.size < l →
      assign.wpIn (Fence.wide.inRound l) 0 P (Exit.then (varsPost w.heap.size S l P body I (fun c k W => c = .exit id ∧ Ix k W) k W) (fun _ _ _ => False)) { tmps := (ps.zip (encs k x)).foldl (fun t (p, v) => t.setIfInBounds p v) a.tmps, defers := [] } W)
    (hend : ∀ (k : Nat) (W : World), (k = xs.length ∧ I k W) ∨ (k ≤ xs.length ∧ Ix k W) → W.heap[w.heap.size]? = some (.deferred (some [])) → Q .normal { a with defers := { target := .collected w.heap.size, args := #[] } :: a.defers } W) :
    (Code.rangeFunc g ps assign body).wp P (Exit.inBlock id Q) a w :=
  wp_each_own hg eg hseq hM hS hb0 hps I (fun c k W => c = .exit id ∧ Ix k W) hI (fun c k W W' row ⟨h, hj⟩ hg hr => ⟨h, hIx k W W' row hj hg hr⟩) h0 hround
    (fun W hi hD => hend _ W (.inl ⟨rfl, hi⟩) hD)
    (fun c k W hk ⟨hc, hi⟩ hD => by
      subst hc
      refine wp_exit ?_
      show (if id = id then _ else _)
      rw [if_pos rfl]
      exact hend k W (.inr ⟨hk, hi⟩) hD)
end
end Go.Proofs.Ytjmaigienigpnaa
