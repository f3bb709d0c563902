/- A region that draws its order, once more: what is known of the world is any predicate that growth keeps. No program of its own. No condition. -/
import Derived.Test.YtcfomhnfhalmaaaRngB
set_option linter.unusedVariables false
set_option linter.unusedSimpArgs false
namespace Go.Proofs.Ytcfomhnfhalmaaa
open Go.RowKit
namespace Fw
abbrev WP := World → Prop
/-- Growth keeps it. -/
def Stable (S : WP) : Prop := ∀ w w', S w → Below w.heap.size w w' → S w'
abbrev Post := Act → WP → Prop
section
variable {P : Program} {ops : Array Oper} {md : Region.Mode} {n : Nat} {kd : Nat → Nat} {St : WP}
/-- What is asked of an operation, by its kind: 1: it adds to what is known; 3: it changes it; else: it yields one value. -/
def Alt (P : Program) (St : WP) (o : Oper) (K : Post) (a : Act) (S : WP) : Nat → Prop
  | 1 => ∃ N : Value → WP → Prop, (∀ w, S w → atR P o a w fun u w' => ∃ S', N u S' ∧ S' w') ∧ ∀ u S', N u S' → Stable S' ∧ (∀ w, S' w → S w) ∧ K (a.put o.dst u) S'
  | 3 => ∃ N : Value → WP → Prop, (∀ w, S w → atR P o a w fun u w' => ∃ S', N u S' ∧ S' w') ∧ ∀ u S', N u S' → Stable S' ∧ (∀ w, S' w → St w) ∧ K (a.put o.dst u) S'
  | _ => ∃ v, (∀ w, S w → at1 P o a w v) ∧ K (a.put o.dst v) S
def gOp (P : Program) (ops : Array Oper) (St : WP) (kd : Nat → Nat) (i : Nat) (K : Post) (a : Act) (S : WP) : Prop :=
  match ops[i]? with
  | none => K a S
  | some o => if Region.wanted o (yielded ops a.tmps) then Alt P St o K a S (kd i) else K (a.put o.dst undef) S
theorem Alt.mono {o : Oper} {K K' : Post} {a : Act} {S : WP} (hS : Stable S ∧ ∀ w, S w → St w) (h : ∀ a S, (Stable S ∧ ∀ w, S w → St w) → K a S → K' a S) : ∀ {k : Nat}, Alt P St o K a S k → Alt P St o K' a S k := by
  intro k hh
  unfold Alt at *
  split
  · obtain ⟨N, h1, h2⟩ := hh; exact ⟨N, h1, fun u S' hN => let ⟨a1, a2, a3⟩ := h2 u S' hN; ⟨a1, a2, h _ _ ⟨a1, fun w hw => hS.2 w (a2 w hw)⟩ a3⟩⟩
  · obtain ⟨N, h1, h2⟩ := hh; exact ⟨N, h1, fun u S' hN => let ⟨a1, a2, a3⟩ := h2 u S' hN; ⟨a1, a2, h _ _ ⟨a1, a2⟩ a3⟩⟩
  · rename_i hn1 hn3
    split at hh
    · exact absurd rfl hn1
    · exact absurd rfl hn3
    · obtain ⟨v, h1, h2⟩ := hh; exact ⟨v, h1, h _ _ hS h2⟩
theorem wp_of_gOp {i : Nat} {K : Post} {K' : Act → World → Prop} {Q' : Exit → Act → World → Prop} {a : Act} {S : WP} {w : World} (hS : Stable S) (hC : S w)
    (h : ∀ a S w, Stable S → S w → K a S → K' a w) (hh : gOp P ops St kd i K a S) : wpOp P ops Q' i K' a w := by
  unfold gOp at hh
  unfold wpOp
  split
  · rename_i ho; simp only [ho] at hh; exact h _ _ _ hS hC hh
  · rename_i o ho
    simp only [ho] at hh
    split
    · rename_i hw
      simp only [hw, if_true] at hh
      refine .inl ?_
      unfold Alt at hh
      split at hh
      · obtain ⟨N, h1, h2⟩ := hh
        exact wp_of_atR (h1 w hC) fun v w' ⟨S', hN, hs⟩ => let ⟨a1, _, a3⟩ := h2 v S' hN; h _ _ _ a1 hs a3
      · obtain ⟨N, h1, h2⟩ := hh
        exact wp_of_atR (h1 w hC) fun v w' ⟨S', hN, hs⟩ => let ⟨a1, _, a3⟩ := h2 v S' hN; h _ _ _ a1 hs a3
      · obtain ⟨v, h1, h2⟩ := hh
        exact wp_of_atR (h1 w hC) fun u w' ⟨hu, hb⟩ => by subst hu; exact h _ _ _ hS (hS _ _ hC hb) h2
    · rename_i hw; simp only [hw] at hh; exact h _ _ _ hS hC hh
theorem gOp_mono {i : Nat} {K K' : Post} {a : Act} {S : WP} (hS : Stable S ∧ ∀ w, S w → St w) (h : ∀ a S, (Stable S ∧ ∀ w, S w → St w) → K a S → K' a S) (hh : gOp P ops St kd i K a S) : gOp P ops St kd i K' a S := by
  unfold gOp at *
  split
  · exact h _ _ hS (by simpa [*] using hh)
  · rename_i o ho
    simp only [ho] at hh
    split
    · rename_i hw; simp only [hw, if_true] at hh; exact hh.mono hS h
    · rename_i hw; simp only [hw] at hh; exact h _ _ hS hh
def wpAnyG (P : Program) (md : Region.Mode) (ops : Array Oper) (St : WP) (kd : Nat → Nat) (n : Nat) (L : Array Bool → Post) : Nat → Array Bool → Post
  | 0, listed, a, S => L listed a S
  | f + 1, listed, a, S =>
    Region.ready md ops listed ≠ [] ∧ ∀ i ∈ Region.ready md ops listed, i < n ∧ gOp P ops St kd i (wpAnyG P md ops St kd n L f (listed.setIfInBounds i true)) a S
theorem wpAny_of_G {g : Nat} {L : Array Bool → Post} {Q' : Exit → Act → World → Prop} (hL : ∀ listed a S w, Stable S → S w → L listed a S → wpAny P md ops Q' g listed a w) :
    ∀ (f : Nat) (listed : Array Bool) (a : Act) (S : WP) (w : World), Stable S → S w → wpAnyG P md ops St kd n L f listed a S → wpAny P md ops Q' (f + g) listed a w
  | 0, listed, a, S, w, hS, hC, h => by rw [Nat.zero_add]; exact hL _ _ _ _ hS hC h
  | f + 1, listed, a, S, w, hS, hC, h => by
    rw [show f + 1 + g = (f + g) + 1 by omega]
    exact ⟨fun h0 => absurd h0 h.1, fun i hi => wp_of_gOp hS hC (fun a' S' w' hS' hC' h' => wpAny_of_G hL f _ a' S' w' hS' hC' h') (h.2 i hi).2⟩
def Yld (P : Program) (ops : Array Oper) (St : WP) (pr : Bool) (o : Oper) (v : Value) (a : Act) (S : WP) : Prop :=
  (Region.wanted o (yielded ops a.tmps) = true ∧ ∀ w, (pr = true ∧ St w ∨ pr = false ∧ S w) → at1 P o a w v) ∨
  (Region.wanted o (yielded ops a.tmps) = false ∧ v = undef)
theorem Yld.op {pr : Bool} {i : Nat} {o : Oper} {v : Value} {a : Act} {S : WP} (hS : Stable S ∧ ∀ w, S w → St w) (hk : kd i ≠ 1 ∧ kd i ≠ 3) (hi : ops[i]? = some o) (hy : Yld P ops St pr o v a S) {K : Post} (h : K (a.put o.dst v) S) : gOp P ops St kd i K a S := by
  unfold gOp
  simp only [hi]
  rcases hy with ⟨hw, hv⟩ | ⟨hw, rfl⟩
  · simp only [hw, if_true]
    unfold Alt
    split
    · rename_i e; exact absurd e hk.1
    · rename_i e; exact absurd e hk.2
    · refine ⟨v, fun w hc => hv w ?_, h⟩
      cases pr with
      | true => exact .inl ⟨rfl, hS.2 _ hc⟩
      | false => exact .inr ⟨rfl, hc⟩
  · simp only [hw, Bool.false_eq_true, if_false]; exact h
theorem Yld.same {pr : Bool} {o : Oper} {v : Value} {a a' : Act} {S : WP} (hy : Yld P ops St pr o v a S) (he : execOp a'.eval o = execOp a.eval o)
    (hw : Region.wanted o (yielded ops a'.tmps) = Region.wanted o (yielded ops a.tmps)) (hz : a'.tmps.size = a.tmps.size) : Yld P ops St pr o v a' S := by
  unfold Yld at *
  rw [hw]
  exact hy.imp (fun ⟨h1, h2⟩ => ⟨h1, fun w hc => atR_same hz he (h2 w hc)⟩) id
theorem Yld.less {pr : Bool} {o : Oper} {v : Value} {a : Act} {S S' : WP} (hy : Yld P ops St pr o v a S) (h : pr = true ∨ ∀ w, S' w → S w) : Yld P ops St pr o v a S' :=
  hy.imp (fun ⟨h1, h2⟩ => ⟨h1, fun w hw => h2 w (by
    rcases hw with hw | ⟨e, hw⟩
    · exact .inl hw
    · rcases h with h | h
      · rw [e] at h; cases h
      · exact .inr ⟨e, h _ hw⟩)⟩) id
theorem gOp_put {pr : Bool} {j : Nat} {oi oj : Oper} {v : Value} {S : WP} (hj : ops[j]? = some oj) (hap : oi.apart ops oj = true) (hp : pr = true ∨ kd j ≠ 3)
    (hsi : ∀ cs b, oi.op ≠ .select cs b) (hsj : ∀ cs b, oj.op ≠ .select cs b) {K : Post} {a : Act}
    (hy : Yld P ops St pr oi v a S) (h : gOp P ops St kd j K (a.put oi.dst v) S) :
    gOp P ops St kd j (fun a' S' => Yld P ops St pr oi v a' S' ∧ K (a'.put oi.dst v) S') a S := by
  obtain ⟨h1, h2, h3⟩ := Oper.apart_spec hap
  have keep : ∀ u, Yld P ops St pr oi v (a.put oj.dst u) S := fun u => hy.same (execOp_put oi hsi a oj.dst u h3) (wanted_put oi a oj.dst u h3) (put_size _ _ _)
  have back : ∀ {w : World} {R : Value → World → Prop}, atR P oj (a.put oi.dst v) w R → atR P oj a w R := fun h => atR_same (put_size _ _ _).symm (execOp_put oj hsj a oi.dst v h1).symm h
  unfold gOp at *
  simp only [hj] at *
  rw [wanted_put oj a oi.dst v h1] at h
  split
  · rename_i hw
    simp only [hw, if_true] at h
    unfold Alt at *
    split
    · rename_i e
      simp only [e] at h
      obtain ⟨N, hu, hn⟩ := h
      exact ⟨N, fun w hc => back (hu w hc), fun u S' hN => let ⟨a1, a2, a3⟩ := hn u S' hN; ⟨a1, a2, (keep u).less (.inr a2), by rw [← Act.put_comm a v u h2]; exact a3⟩⟩
    · rename_i e
      simp only [e] at h
      obtain ⟨N, hu, hn⟩ := h
      exact ⟨N, fun w hc => back (hu w hc), fun u S' hN => let ⟨a1, a2, a3⟩ := hn u S' hN; ⟨a1, a2, (keep u).less (.inl (hp.resolve_right (by simp [e]))), by rw [← Act.put_comm a v u h2]; exact a3⟩⟩
    · rename_i e1 e3
      split at h
      · rename_i e; exact absurd e e1
      · rename_i e; exact absurd e e3
      · obtain ⟨u, hu, hn⟩ := h
        exact ⟨u, fun w hc => back (hu w hc), keep u, by rw [← Act.put_comm a v u h2]; exact hn⟩
  · rename_i hw
    simp only [hw] at h
    exact ⟨keep _, by rw [← Act.put_comm a v undef h2]; exact h⟩
theorem wpAnyG_first {pr : Bool} {i : Nat} {oi : Oper} {v : Value} {L : Array Bool → Post} (hi : ops[i]? = some oi) (hk : kd i ≠ 1 ∧ kd i ≠ 3) (hsel : ∀ (j : Nat) (o : Oper) cs b, ops[j]? = some o → o.op ≠ .select cs b)
    (hT : TailW md ops n) (hin : i < n) (hdone : ∀ listed a S, L listed a S → ∀ j ∈ Region.ready md ops listed, n ≤ j) :
    ∀ (f : Nat) (listed : Array Bool) (a : Act) (S : WP), (Stable S ∧ ∀ w, S w → St w) → HeadInv md ops n listed →
      (∀ j oj, ops[j]? = some oj → j ≠ i → listed.getD j true = false → (∀ e ∈ oj.after, Region.binds md e = true → e.on ≠ i) → oi.apart ops oj = true) →
      (pr = true ∨ ∀ j, kd j = 3 → listed.getD j true = false → Upto md ops j i) →
      i ∈ Region.ready md ops listed → Yld P ops St pr oi v a S →
      wpAnyG P md ops St kd n L f (listed.setIfInBounds i true) (a.put oi.dst v) S → wpAnyG P md ops St kd n L (f + 1) listed a S := by
  intro f
  induction f with
  | zero =>
    intro listed a S hS inv _ _ hr hy H
    have hun := (mem_ready.1 hr).1
    refine ⟨fun h => (by rw [h] at hr; cases hr), fun j hj => ?_⟩
    refine ⟨hT _ inv i hin hun j hj, ?_⟩
    by_cases hji : j = i
    · subst hji; exact hy.op hS hk hi H
    · have := hdone _ _ _ H j (ready_mono hj hji)
      have := hT _ inv i hin hun j hj
      omega
  | succ f ih =>
    intro listed a S hS inv hfree hchg hr hy H
    have hun := (mem_ready.1 hr).1
    refine ⟨fun h => (by rw [h] at hr; cases hr), fun j hj => ?_⟩
    have hjn := hT _ inv i hin hun j hj
    refine ⟨hjn, ?_⟩
    by_cases hji : j = i
    · subst hji; exact hy.op hS hk hi H
    · have h1 := (H.2 j (ready_mono hj hji)).2
      obtain ⟨hjun, oj, hoj, hall⟩ := mem_ready.1 hj
      have hnot : ∀ e ∈ oj.after, Region.binds md e = true → e.on ≠ i := fun e he hb heq => by
        have h1 := hall e he hb
        rw [heq, getD_both hun] at h1
        cases h1
      have hp : pr = true ∨ kd j ≠ 3 := by
        rcases hchg with h | h
        · exact .inl h
        · refine .inr fun e => ?_
          have hli := (h j e hjun).listed inv fun oj' hoj' e' he' hb' => by
            have : oj' = oj := Option.some.inj (hoj'.symm.trans hoj)
            subst this
            exact hall e' he' hb'
          rw [getD_both hun] at hli
          cases hli
      have h2 := gOp_put hoj (hfree j oj hoj hji hjun hnot) hp (fun cs b => hsel i oi cs b hi) (fun cs b => hsel j oj cs b hoj) hy h1
      have unl : ∀ {k : Nat}, (listed.setIfInBounds j true).getD k true = false → listed.getD k true = false := fun {k} hun => by
        by_cases hjk : j = k
        · subst hjk; exact hjun
        · rw [getD_set_ne true hjk] at hun; exact hun
      refine gOp_mono hS (fun a' S' hS' h3 => ih (listed.setIfInBounds j true) a' S' hS' (inv.set hj hjn) (fun k ok hk hki hun hno => hfree k ok hk hki (unl hun) hno) (hchg.imp id fun h k hk hun => h k hk (unl hun)) (ready_mono hr (Ne.symm hji)) h3.1 ?_) h2
      rw [Array.setIfInBounds_comm _ _ hji]
      exact h3.2
/-- b is new. -/
def New (S : WP) (b : Nat) : Prop := ∃ w, S w ∧ w.heap.size ≤ b
def With (S : WP) (b : Nat) (c : Array Value) (t : TypeId) : WP := fun w => S w ∧ Blk w b c t
theorem With.stable {S : WP} {b : Nat} {c : Array Value} {t : TypeId} (h : Stable S) : Stable (With S b c t) := fun w w' ⟨h1, h2⟩ hb => ⟨h _ _ h1 hb, h2.grow hb⟩
theorem With.swap (S : WP) (b b2 : Nat) (c c2 : Array Value) (t t2 : TypeId) : With (With S b c t) b2 c2 t2 = With (With S b2 c2 t2) b c t := by
  funext w; exact propext ⟨fun ⟨⟨x, y⟩, z⟩ => ⟨⟨x, z⟩, y⟩, fun ⟨⟨x, y⟩, z⟩ => ⟨⟨x, z⟩, y⟩⟩
theorem with_of_A {S : WP} {o : Oper} {a : Act} {w : World} {mk : Nat → Value} {c : Array Value} {t : TypeId} (hS : Stable S) (hw : S w) (h : atA P o a w mk c t) : atR P o a w fun u w' => ∃ S', (∃ b, New S b ∧ u = mk b ∧ S' = With S b c t) ∧ S' w' :=
  atR_mono h fun v w' ⟨hv, hw'⟩ => ⟨_, ⟨_, ⟨w, hw, Nat.le_refl _⟩, hv, rfl⟩, hS _ _ hw (by rw [hw']; exact World.below_alloc _ _), by rw [hw']; show (w.heap.push _)[w.heap.size]? = _; simp⟩
def wpG (P : Program) (ops : Array Oper) (St : WP) (L : Post) : List Mv → Post
  | [], a, S => L a S
  | .q i :: r, a, S => ∃ o, ops[i]? = some o ∧ ∃ v, Yld P ops St false o v a S ∧ wpG P ops St L r (a.put o.dst v) S
  | .p i :: r, a, S => ∃ o, ops[i]? = some o ∧ ∃ v, Yld P ops St true o v a S ∧ wpG P ops St L r (a.put o.dst v) S
  | .g i :: r, a, S => ∃ o, ops[i]? = some o ∧ ((Region.wanted o (yielded ops a.tmps) = true ∧ Alt P St o (wpG P ops St L r) a S 1) ∨ (Region.wanted o (yielded ops a.tmps) = false ∧ wpG P ops St L r (a.put o.dst undef) S))
  | .c i :: r, a, S => ∃ o, ops[i]? = some o ∧ Region.wanted o (yielded ops a.tmps) = true ∧ Alt P St o (wpG P ops St L r) a S 3
  | .gg i j :: r, a, S => ∃ o1 o2, ops[i]? = some o1 ∧ ops[j]? = some o2 ∧ Region.wanted o1 (yielded ops a.tmps) = true ∧ Region.wanted o2 (yielded ops a.tmps) = true ∧
      ∃ mk1 c1 t1 mk2 c2 t2, (∀ w, S w → atA P o1 a w mk1 c1 t1) ∧ (∀ w, S w → atA P o2 a w mk2 c2 t2) ∧
        ∀ b1 b2, New S b1 → New S b2 → b1 ≠ b2 → wpG P ops St L r ((a.put o1.dst (mk1 b1)).put o2.dst (mk2 b2)) (With (With S b1 c1 t1) b2 c2 t2)
theorem one_ready {L : Array Bool → Post} {f i k : Nat} {o : Oper} {listed : Array Bool} {a : Act} {S : WP} (hr : i ∈ Region.ready md ops listed) (hr' : ∀ j, j ∈ Region.ready md ops listed → j = i) (hin : i < n) (ho : ops[i]? = some o) (hw : Region.wanted o (yielded ops a.tmps) = true) (hk : kd i = k)
    (h : Alt P St o (wpAnyG P md ops St kd n L f (listed.setIfInBounds i true)) a S k) : wpAnyG P md ops St kd n L (f + 1) listed a S := by
  refine ⟨fun e => (by rw [e] at hr; cases hr), fun j hj => ?_⟩
  obtain rfl := hr' j hj
  refine ⟨hin, ?_⟩
  unfold gOp
  simp only [ho, hw, if_true, hk]
  exact h
theorem one_skip {L : Array Bool → Post} {f i : Nat} {o : Oper} {listed : Array Bool} {a : Act} {S : WP} (hr : i ∈ Region.ready md ops listed) (hr' : ∀ j, j ∈ Region.ready md ops listed → j = i) (hin : i < n) (ho : ops[i]? = some o) (hw : Region.wanted o (yielded ops a.tmps) = false)
    (h : wpAnyG P md ops St kd n L f (listed.setIfInBounds i true) (a.put o.dst undef) S) : wpAnyG P md ops St kd n L (f + 1) listed a S := by
  refine ⟨fun e => (by rw [e] at hr; cases hr), fun j hj => ?_⟩
  obtain rfl := hr' j hj
  refine ⟨hin, ?_⟩
  unfold gOp
  simp only [ho, hw, Bool.false_eq_true, if_false]
  exact h
theorem wpAnyG_of_walk {L : Post} {g : Nat} (hsel : Region.noSelect ops = true) (hT : TailW md ops n) :
    ∀ (l : List Mv) (listed : Array Bool) (a : Act) (S : WP), (Stable S ∧ ∀ w, S w → St w) → HeadInv md ops n listed → Order md ops n g kd l listed → wpG P ops St L l a S →
    wpAnyG P md ops St kd n (fun listed' a' S' => Region.seqB md ops g n listed' = true ∧ L a' S') (counts l) listed a S
  | [], listed, a, S, hS, inv, hB, h => ⟨hB, h⟩
  | .q i :: l, listed, a, S, hS, inv, hB, h => by
    obtain ⟨o, ho, v, hy, hK⟩ := h
    obtain ⟨hin, hk, hr, hf, hc, hB'⟩ := hB
    exact wpAnyG_first ho hk (Region.noSelect_spec hsel) hT hin (fun listed' a' S' hL => seqB_ready hL.1) (counts l) listed a S hS inv (hf o ho) (.inr hc) hr hy
      (wpAnyG_of_walk hsel hT l _ _ S hS (inv.set hr hin) hB' hK)
  | .p i :: l, listed, a, S, hS, inv, hB, h => by
    obtain ⟨o, ho, v, hy, hK⟩ := h
    obtain ⟨hin, hk, hr, hf, hB'⟩ := hB
    exact wpAnyG_first ho hk (Region.noSelect_spec hsel) hT hin (fun listed' a' S' hL => seqB_ready hL.1) (counts l) listed a S hS inv (hf o ho) (.inl rfl) hr hy
      (wpAnyG_of_walk hsel hT l _ _ S hS (inv.set hr hin) hB' hK)
  | .g i :: l, listed, a, S, hS, inv, hB, h => by
    obtain ⟨o, ho, ⟨hw, h1⟩ | ⟨hw, h1⟩⟩ := h
    · obtain ⟨hin, hk, hr, hr', hB'⟩ := hB
      exact one_ready hr hr' hin ho hw hk (h1.mono hS fun a' S' hS' h' => wpAnyG_of_walk hsel hT l _ a' S' hS' (inv.set hr hin) hB' h')
    · obtain ⟨hin, hk, hr, hr', hB'⟩ := hB
      exact one_skip hr hr' hin ho hw (wpAnyG_of_walk hsel hT l _ _ S hS (inv.set hr hin) hB' h1)
  | .c i :: l, listed, a, S, hS, inv, hB, h => by
    obtain ⟨o, ho, hw, h1⟩ := h
    obtain ⟨hin, hk, hr, hr', hB'⟩ := hB
    exact one_ready hr hr' hin ho hw hk (h1.mono hS fun a' S' hS' h' => wpAnyG_of_walk hsel hT l _ a' S' hS' (inv.set hr hin) hB' h')
  | .gg i j :: l, listed, a, S, hS, inv, hB, h => by
    obtain ⟨o1, o2, ho1, ho2, hw1, hw2, mk1, c1, t1, mk2, c2, t2, h1, h2, hK⟩ := h
    obtain ⟨hin, hjn, hki, hkj, hij, hi', hj', hr, hri, hrj, hap, hB'⟩ := hB
    obtain ⟨p1, p2, p3⟩ := Oper.apart_spec (hap o1 o2 ho1 ho2)
    have hji : j ∈ Region.ready md ops (listed.setIfInBounds i true) := ready_mono hj' (Ne.symm hij)
    have hij' : i ∈ Region.ready md ops (listed.setIfInBounds j true) := ready_mono hi' hij
    have s1 : ∀ cs b, o1.op ≠ .select cs b := fun cs b => Region.noSelect_spec hsel i o1 cs b ho1
    have s2 : ∀ cs b, o2.op ≠ .select cs b := fun cs b => Region.noSelect_spec hsel j o2 cs b ho2
    have fin : ∀ b1 b2, New S b1 → New S b2 → b1 ≠ b2 →
        wpAnyG P md ops St kd n (fun listed' a' S' => Region.seqB md ops g n listed' = true ∧ L a' S') (counts l) ((listed.setIfInBounds i true).setIfInBounds j true) ((a.put o1.dst (mk1 b1)).put o2.dst (mk2 b2)) (With (With S b1 c1 t1) b2 c2 t2) :=
      fun b1 b2 x1 x2 x3 => wpAnyG_of_walk hsel hT l _ _ _ ⟨With.stable (With.stable hS.1), fun w hw => hS.2 w hw.1.1⟩ ((inv.set hi' hin).set hji hjn) hB' (hK b1 b2 x1 x2 x3)
    show wpAnyG P md ops St kd n _ (counts l + 1 + 1) listed a S
    refine ⟨fun e => (by rw [e] at hi'; cases hi'), fun k hk => ?_⟩
    rcases hr k hk with rfl | rfl
    · refine ⟨hin, ?_⟩
      unfold gOp
      simp only [ho1, hw1, if_true, hki]
      refine ⟨_, fun w hc => with_of_A hS.1 hc (h1 w hc), fun v S1 ⟨b1, x1, e1, e2⟩ => ?_⟩
      subst e1; subst e2
      refine ⟨With.stable hS.1, fun w hw => hw.1, ?_⟩
      refine one_ready hji hri hjn ho2 (by rw [wanted_put o2 a o1.dst _ p1]; exact hw2) hkj ?_
      refine ⟨_, fun w hc => with_of_A (With.stable hS.1) hc (atR_same (put_size _ _ _) (execOp_put o2 s2 a o1.dst _ p1) (h2 w hc.1)), fun v S2 ⟨b2, ⟨w2, x2, x2'⟩, e1, e2⟩ => ?_⟩
      subst e1; subst e2
      exact ⟨With.stable (With.stable hS.1), fun w hw => hw.1, fin b1 b2 x1 ⟨w2, x2.1, x2'⟩ (by have := x2.2.lt; omega)⟩
    · refine ⟨hjn, ?_⟩
      unfold gOp
      simp only [ho2, hw2, if_true, hkj]
      refine ⟨_, fun w hc => with_of_A hS.1 hc (h2 w hc), fun v S1 ⟨b2, x2, e1, e2⟩ => ?_⟩
      subst e1; subst e2
      refine ⟨With.stable hS.1, fun w hw => hw.1, ?_⟩
      refine one_ready hij' hrj hin ho1 (by rw [wanted_put o1 a o2.dst _ p3]; exact hw1) hki ?_
      refine ⟨_, fun w hc => with_of_A (With.stable hS.1) hc (atR_same (put_size _ _ _) (execOp_put o1 s1 a o2.dst _ p3) (h1 w hc.1)), fun v S2 ⟨b1, ⟨w1, x1, x1'⟩, e1, e2⟩ => ?_⟩
      subst e1; subst e2
      refine ⟨With.stable (With.stable hS.1), fun w hw => hw.1, ?_⟩
      rw [With.swap, ← Act.put_comm a (mk1 b1) (mk2 b2) p2, Array.setIfInBounds_comm _ _ (Ne.symm hij)]
      exact fin b1 b2 ⟨w1, x1.1, x1'⟩ x2 (by have := x1.2.lt; omega)
theorem wpAny_region_grow {Q : Exit → Act → World → Prop} {a : Act} {w : World} {l : List Oper} (n C G : Nat) (T0 : List Row4) (ord : List (Mv × Nat)) (tl : List (Nat × Nat)) (St S : WP) (hSt : ∀ w, S w → St w) (hSS : Stable S) (hB : regionB .any l n C G T0 ord tl = true)
    (hO : S w.drew)
    (h : wpG P l.toArray St (fun a' S' => ∀ w', Stable S' → S' w' → wpList P l.toArray Q (l.drop n) a' w') (ord.map (·.1)) a S) : wpAny P .any l.toArray Q l.toArray.size (Array.replicate l.toArray.size false) a w.drew := by
  simp only [regionB, Bool.and_eq_true] at hB
  obtain ⟨⟨⟨⟨⟨ht, hsel⟩, hT⟩, hlen⟩, hn⟩, hord⟩ := hB
  have hlen := Nat.eq_of_beq_eq_true hlen
  have hn := Nat.le_of_ble_eq_true hn
  have hdl : (l.drop n).length = l.length - n := by simp
  have inv0 : HeadInv .any l.toArray n (Array.replicate l.toArray.size false) :=
    ⟨by simp, fun j oj _ hl => (by rw [getD_replicate_false] at hl; cases hl), fun t _ ht => getD_in (by simpa using ht) (getD_replicate_false _ _)⟩
  have hL0 : Lst l.toArray 0 (Array.replicate l.toArray.size false) := ⟨by simp, fun j => by rw [getD_replicate_false]; simp⟩
  have HH := wpAnyG_of_walk (md := .any) hsel (tail_spec ht hT) (ord.map (·.1)) _ a _ ⟨hSS, hSt⟩ inv0 (order_spec ht ord 0 _ hL0 hord) h
  have := wpAny_of_G (Q' := Q) (g := l.length - n) (fun listed a' S w' hS hC hL => by
    have := wpAny_of_seq (md := .any) (Q' := Q) (l.drop n) n listed a' w' (fun j => by simp [List.getElem?_drop]) (by rw [hdl]; exact hL.1) (hL.2 w' hS hC)
    rwa [hdl] at this) _ _ _ _ _ hSS hO HH
  rw [hlen, show n + (l.length - n) = l.toArray.size by simp; omega] at this
  exact this
theorem wp_region_grow {id : Nat} {Q : Exit → Act → World → Prop} {a : Act} {w : World} {l : List Oper} (n C G : Nat) (T0 : List Row4) (ord : List (Mv × Nat)) (tl : List (Nat × Nat)) (St S : WP) (hSt : ∀ w, S w → St w) (hSS : Stable S) (hm : P.follows .mixedOrders = true) (hB : regionB .any l n C G T0 ord tl = true)
    (hO : S w.drew)
    (h : wpG P l.toArray St (fun a' S' => ∀ w', Stable S' → S' w' → wpList P l.toArray Q (l.drop n) a' w') (ord.map (·.1)) a S) : (Code.region id l.toArray true).wp P Q a w :=
  wp_region_any hm (wpAny_region_grow n C G T0 ord tl St S hSt hSS hB hO h)
theorem regInG {a : Act} {w : World} {Q : Exit → Act → World → Prop} {lr : Nat} {id : Nat} {os : List Oper} (hd : noDefer os = true) (hq : ¬ LetsOut Q) (n C G : Nat) (T0 : List Row4) (ord : List (Mv × Nat)) (tl : List (Nat × Nat)) (St S : WP) (hSt : ∀ w, S w → St w) (hSS : Stable S) (hm : P.follows .mixedOrders = true) (hB : regionB .any os n C G T0 ord tl = true)
    (hO : S w.drew)
    (h : wpG P os.toArray St (fun a' S' => ∀ w', Stable S' → S' w' → wpList P os.toArray Q (os.drop n) a' w') (ord.map (·.1)) a S) : (Code.region id os.toArray true).wpIn (Fence.wide.inRound lr) 0 P Q a w :=
  wpIn_region_any hm (anyIn (fun i o ho => noDefer_at hd ho) hq _ _ _ _ (wpAny_region_grow n C G T0 ord tl St S hSt hSS hB hO h))
end
end Fw
end Go.Proofs.Ytcfomhnfhalmaaa
