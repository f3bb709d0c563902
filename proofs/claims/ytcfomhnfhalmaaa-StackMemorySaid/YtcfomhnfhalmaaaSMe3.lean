/- Parts of a proof, merged: RegV YC Words YB EyQ. No condition. -/
import Derived.Test.YtcfomhnfhalmaaaSMe2
import Derived.ScopeJumps
import Derived.Shelf.Abstract
import Derived.WalkKit
import Derived.LoopN
import Derived.Maps.RangeRun
section
set_option linter.unusedVariables false
set_option linter.unusedSimpArgs false
namespace Go.Proofs.Ytcfomhnfhalmaaa
open Go.RowKit
namespace Fv
abbrev WP := World → Prop
/-- Blocks that are claimed. -/
abbrev BP := Nat → Prop
abbrev Post := Act → WP → BP → Prop
/-- What is claimed next was claimed, or is new; what nobody claims stays. -/
structure Left (B B' : BP) (w w' : World) : Prop where
  claims : ∀ b, B' b → B b ∨ w.heap.size ≤ b
  stays : ∀ k, k < w.heap.size → ¬ B k → w'.heap[k]? = w.heap[k]?
  size : w.heap.size ≤ w'.heap.size
section
variable {P : Program} {ops : Array Oper} {St : WP}
def Alt (P : Program) (St : WP) (o : Oper) (K : Post) (a : Act) (S : WP) (B : BP) : Nat → Prop
  | 1 => ∃ N : Value → WP → BP → Prop, (∀ w, S w → atR P o a w fun u w' => ∃ S' B', N u S' B' ∧ S' w' ∧ Left B B' w w') ∧ ∀ u S' B', N u S' B' → Fw.Stable S' ∧ (∀ w, S' w → S w) ∧ (∀ w, S' w → ∀ b, B' b → b < w.heap.size) ∧ K (a.put o.dst u) S' B'
  | 3 => ∃ N : Value → WP → BP → Prop, (∀ w, S w → atR P o a w fun u w' => ∃ S' B', N u S' B' ∧ S' w' ∧ Left B B' w w') ∧ ∀ u S' B', N u S' B' → Fw.Stable S' ∧ (∀ w, S' w → St w) ∧ (∀ w, S' w → ∀ b, B' b → b < w.heap.size) ∧ K (a.put o.dst u) S' B'
  | _ => ∃ v, (∀ w, S w → at1 P o a w v) ∧ K (a.put o.dst v) S B
/-- It forgets what is claimed. -/
theorem Alt.to {o : Oper} {K : Post} {a : Act} {S : WP} {B : BP} : ∀ {k : Nat}, Alt P St o K a S B k → Fw.Alt P St o (fun a S => ∃ B, K a S B) a S k := by
  intro k hh
  unfold Alt at hh
  unfold Fw.Alt
  split
  · obtain ⟨N, h1, h2⟩ := hh
    exact ⟨fun u S' => ∃ B', N u S' B', fun w hw => atR_mono (h1 w hw) fun u w' ⟨S', B', x1, x2, _⟩ => ⟨S', ⟨B', x1⟩, x2⟩, fun u S' ⟨B', x⟩ => let ⟨a1, a2, _, a3⟩ := h2 u S' B' x; ⟨a1, a2, B', a3⟩⟩
  · obtain ⟨N, h1, h2⟩ := hh
    exact ⟨fun u S' => ∃ B', N u S' B', fun w hw => atR_mono (h1 w hw) fun u w' ⟨S', B', x1, x2, _⟩ => ⟨S', ⟨B', x1⟩, x2⟩, fun u S' ⟨B', x⟩ => let ⟨a1, a2, _, a3⟩ := h2 u S' B' x; ⟨a1, a2, B', a3⟩⟩
  · rename_i hn1 hn3
    split at hh
    · exact absurd rfl hn1
    · exact absurd rfl hn3
    · obtain ⟨v, h1, h2⟩ := hh; exact ⟨v, h1, B, h2⟩
/-- A block beside that nobody claims: what is done leaves it alone. -/
theorem Alt.float {o : Oper} {K K' : Post} {a : Act} {S : WP} {B : BP} {b : Nat} {c : Array Value} {t : TypeId} (hb : ¬ B b) (h : ∀ a S B, ¬ B b → K a S B → K' a (Fw.With S b c t) B) (hSt : ∀ {S' : WP}, (∀ w, S' w → St w) → ∀ w, Fw.With S' b c t w → St w) :
    ∀ {k : Nat}, Alt P St o K a S B k → Alt P St o K' a (Fw.With S b c t) B k := by
  intro k hh
  have step : ∀ {N : Value → WP → BP → Prop}, (∀ w, S w → atR P o a w fun u w' => ∃ S' B', N u S' B' ∧ S' w' ∧ Left B B' w w') → ∀ w, Fw.With S b c t w → atR P o a w fun u w' => ∃ S'' B', (∃ S', N u S' B' ∧ ¬ B' b ∧ S'' = Fw.With S' b c t) ∧ S'' w' ∧ Left B B' w w' := fun {N} h1 w hw => atR_mono (h1 w hw.1) fun u w' ⟨S', B', x1, x2, x3⟩ => by
    have hlt := hw.2.lt
    have hn : ¬ B' b := fun hB => by
      rcases x3.claims b hB with e | e
      · exact hb e
      · omega
    exact ⟨_, B', ⟨S', x1, hn, rfl⟩, ⟨x2, (x3.stays b hlt hb).trans hw.2⟩, x3⟩
  unfold Alt at hh ⊢
  split
  · obtain ⟨N, h1, h2⟩ := hh
    refine ⟨fun u S'' B' => ∃ S', N u S' B' ∧ ¬ B' b ∧ S'' = Fw.With S' b c t, step h1, fun u S'' B' ⟨S', x1, x2, x3⟩ => ?_⟩
    subst x3
    obtain ⟨a1, a2, a4, a3⟩ := h2 u S' B' x1
    exact ⟨Fw.With.stable a1, fun w hw => ⟨a2 w hw.1, hw.2⟩, fun w hw => a4 w hw.1, h _ _ _ x2 a3⟩
  · obtain ⟨N, h1, h2⟩ := hh
    refine ⟨fun u S'' B' => ∃ S', N u S' B' ∧ ¬ B' b ∧ S'' = Fw.With S' b c t, step h1, fun u S'' B' ⟨S', x1, x2, x3⟩ => ?_⟩
    subst x3
    obtain ⟨a1, a2, a4, a3⟩ := h2 u S' B' x1
    exact ⟨Fw.With.stable a1, hSt a2, fun w hw => a4 w hw.1, h _ _ _ x2 a3⟩
  · rename_i hn1 hn3
    split at hh
    · exact absurd rfl hn1
    · exact absurd rfl hn3
    · obtain ⟨v, h1, h2⟩ := hh
      exact ⟨v, fun w hw => h1 w hw.1, h _ _ _ hb h2⟩
/-- The same, where the block's pointer lies in a variable that is not read. -/
theorem Alt.floatP {o : Oper} {K K' : Post} {a : Act} {S : WP} {B : BP} {b : Nat} {c : Array Value} {t : TypeId} {d : Option Tmp} {v : Value} (hex : execOp (a.put d v).eval o = execOp a.eval o) (hpc : ∀ u, (a.put d v).put o.dst u = (a.put o.dst u).put d v) (hb : ¬ B b)
    (h : ∀ a S B, ¬ B b → K a S B → K' (a.put d v) (Fw.With S b c t) B) :
    ∀ {k : Nat}, Alt P St o K a S B k → Alt P St o K' (a.put d v) (Fw.With S b c t) B k := by
  intro k hh
  have step : ∀ {N : Value → WP → BP → Prop}, (∀ w, S w → atR P o a w fun u w' => ∃ S' B', N u S' B' ∧ S' w' ∧ Left B B' w w') → ∀ w, Fw.With S b c t w → atR P o (a.put d v) w fun u w' => ∃ S'' B', (∃ S', N u S' B' ∧ ¬ B' b ∧ S'' = Fw.With S' b c t) ∧ S'' w' ∧ Left B B' w w' := fun {N} h1 w hw => atR_same (put_size _ _ _) hex (atR_mono (h1 w hw.1) fun u w' ⟨S', B', x1, x2, x3⟩ => by
    have hlt := hw.2.lt
    have hn : ¬ B' b := fun hB => by
      rcases x3.claims b hB with e | e
      · exact hb e
      · omega
    exact ⟨_, B', ⟨S', x1, hn, rfl⟩, ⟨x2, (x3.stays b hlt hb).trans hw.2⟩, x3⟩)
  unfold Alt at hh ⊢
  split
  · obtain ⟨N, h1, h2⟩ := hh
    refine ⟨fun u S'' B' => ∃ S', N u S' B' ∧ ¬ B' b ∧ S'' = Fw.With S' b c t, step h1, fun u S'' B' ⟨S', x1, x2, x3⟩ => ?_⟩
    subst x3
    obtain ⟨a1, a2, a4, a3⟩ := h2 u S' B' x1
    exact ⟨Fw.With.stable a1, fun w hw => ⟨a2 w hw.1, hw.2⟩, fun w hw => a4 w hw.1, by rw [hpc]; exact h _ _ _ x2 a3⟩
  · obtain ⟨N, h1, h2⟩ := hh
    refine ⟨fun u S'' B' => ∃ S', N u S' B' ∧ ¬ B' b ∧ S'' = Fw.With S' b c t, step h1, fun u S'' B' ⟨S', x1, x2, x3⟩ => ?_⟩
    subst x3
    obtain ⟨a1, a2, a4, a3⟩ := h2 u S' B' x1
    exact ⟨Fw.With.stable a1, fun w hw => a2 w hw.1, fun w hw => a4 w hw.1, by rw [hpc]; exact h _ _ _ x2 a3⟩
  · rename_i hn1 hn3
    split at hh
    · exact absurd rfl hn1
    · exact absurd rfl hn3
    · obtain ⟨u, h1, h2⟩ := hh
      exact ⟨u, fun w hw => atR_same (put_size _ _ _) hex (h1 w hw.1), by rw [hpc]; exact h _ _ _ hb h2⟩
/-- A head's way, in an order of ours. -/
def wpV (P : Program) (ops : Array Oper) (St : WP) (L : Post) : List Mv → Post
  | [], a, S, B => L a S B
  | .q i :: r, a, S, B => ∃ o, ops[i]? = some o ∧ ∃ v, Fw.Yld P ops St false o v a S ∧ wpV P ops St L r (a.put o.dst v) S B
  | .p i :: r, a, S, B => ∃ o, ops[i]? = some o ∧ ∃ v, Fw.Yld P ops St true o v a S ∧ wpV P ops St L r (a.put o.dst v) S B
  | .g i :: r, a, S, B => ∃ o, ops[i]? = some o ∧ ((Region.wanted o (yielded ops a.tmps) = true ∧ Alt P St o (wpV P ops St L r) a S B 1) ∨ (Region.wanted o (yielded ops a.tmps) = false ∧ wpV P ops St L r (a.put o.dst undef) S B))
  | .c i :: r, a, S, B => ∃ o, ops[i]? = some o ∧ Region.wanted o (yielded ops a.tmps) = true ∧ Alt P St o (wpV P ops St L r) a S B 3
  | .gg _ _ :: _, _, _, _ => False
def mvI : Mv → Nat
  | .q i | .p i | .g i | .c i => i
  | .gg i _ => i
/-- What is done beside a block that nobody claims is done as if it were not there. -/
theorem wpV.float {fo : Oper} {L L' : Post} {b : Nat} {c : Array Value} {t : TypeId} {v : Value} (hsel : ∀ (j : Nat) (o : Oper) cs b, ops[j]? = some o → o.op ≠ .select cs b) (hL : ∀ a0 S0 B', ¬ B' b → L a0 S0 B' → L' (a0.put fo.dst v) (Fw.With S0 b c t) B') :
    ∀ (l : List Mv) (a : Act) (S : WP) (B : BP), (∀ m ∈ l, ∀ o, ops[mvI m]? = some o → fo.apart ops o = true) → ¬ B b → wpV P ops St L l a S B →
      wpV P ops St L' l (a.put fo.dst v) (Fw.With S b c t) B
  | [], a, S, B, _, hb, h => hL _ _ _ hb h
  | m :: l, a, S, B, hap, hb, h => by
    have ih := fun a S B => wpV.float (L := L) (L' := L') (fo := fo) (b := b) (c := c) (t := t) (v := v) hsel hL l a S B fun m' hm => hap m' (by simp [hm])
    have key : ∀ {o}, ops[mvI m]? = some o → (∀ a : Act, execOp (a.put fo.dst v).eval o = execOp a.eval o) ∧ (∀ a : Act, Region.wanted o (yielded ops (a.put fo.dst v).tmps) = Region.wanted o (yielded ops a.tmps)) ∧ ∀ (a : Act) u, (a.put fo.dst v).put o.dst u = (a.put o.dst u).put fo.dst v := fun {o} ho => by
      obtain ⟨p1, p2, p3⟩ := Oper.apart_spec (hap m (by simp) o ho)
      exact ⟨fun a => execOp_put o (fun cs b => hsel _ o cs b ho) a fo.dst v p1, fun a => wanted_put o a fo.dst v p1, fun a u => Act.put_comm a v u p2⟩
    cases m with
    | q i =>
      obtain ⟨o, ho, u, hy, hK⟩ := h
      obtain ⟨k1, k2, k3⟩ := key ho
      refine ⟨o, ho, u, Fw.Yld.less (hy.same (k1 a) (k2 a) (put_size _ _ _)) (.inr fun w hw => hw.1), ?_⟩
      rw [k3]
      exact ih _ _ _ hb hK
    | p i =>
      obtain ⟨o, ho, u, hy, hK⟩ := h
      obtain ⟨k1, k2, k3⟩ := key ho
      refine ⟨o, ho, u, Fw.Yld.less (hy.same (k1 a) (k2 a) (put_size _ _ _)) (.inl rfl), ?_⟩
      rw [k3]
      exact ih _ _ _ hb hK
    | g i =>
      obtain ⟨o, ho, ⟨hw, h1⟩ | ⟨hw, h1⟩⟩ := h
      · obtain ⟨k1, k2, k3⟩ := key ho
        exact ⟨o, ho, .inl ⟨by rw [k2]; exact hw, Alt.floatP (k1 a) (k3 a) hb (fun a S B hb' hk => ih a S B hb' hk) h1⟩⟩
      · obtain ⟨k1, k2, k3⟩ := key ho
        refine ⟨o, ho, .inr ⟨by rw [k2]; exact hw, ?_⟩⟩
        rw [k3]
        exact ih _ _ _ hb h1
    | c i =>
      obtain ⟨o, ho, hw, h1⟩ := h
      obtain ⟨k1, k2, k3⟩ := key ho
      exact ⟨o, ho, by rw [k2]; exact hw, Alt.floatP (k1 a) (k3 a) hb (fun a S B hb' hk => ih a S B hb' hk) h1⟩
    | gg i j => exact h.elim
/-- Claims forgotten. -/
theorem wpV.to {L : Post} {L2 : Fw.Post} (hL : ∀ a S B, (Fw.Stable S ∧ ∀ w, S w → St w) → L a S B → L2 a S) : ∀ (l : List Mv) (a : Act) (S : WP) (B : BP), (Fw.Stable S ∧ ∀ w, S w → St w) → wpV P ops St L l a S B → Fw.wpG P ops St L2 l a S
  | [], a, S, B, hS, h => hL _ _ _ hS h
  | .q i :: l, a, S, B, hS, ⟨o, ho, u, hy, hK⟩ => ⟨o, ho, u, hy, wpV.to hL l _ _ _ hS hK⟩
  | .p i :: l, a, S, B, hS, ⟨o, ho, u, hy, hK⟩ => ⟨o, ho, u, hy, wpV.to hL l _ _ _ hS hK⟩
  | .g i :: l, a, S, B, hS, ⟨o, ho, .inl ⟨hw, h1⟩⟩ => ⟨o, ho, .inl ⟨hw, h1.to.mono hS fun a S hS' ⟨B, hk⟩ => wpV.to hL l _ _ B hS' hk⟩⟩
  | .g i :: l, a, S, B, hS, ⟨o, ho, .inr ⟨hw, h1⟩⟩ => ⟨o, ho, .inr ⟨hw, wpV.to hL l _ _ B hS h1⟩⟩
  | .c i :: l, a, S, B, hS, ⟨o, ho, hw, h1⟩ => ⟨o, ho, hw, h1.to.mono hS fun a S hS' ⟨B, hk⟩ => wpV.to hL l _ _ B hS' hk⟩
  | .gg _ _ :: _, _, _, _, _, h => h.elim
theorem wpG_app {L : Fw.Post} {pl : List Mv} : ∀ l : List Mv, Fw.wpG P ops St L (l ++ pl) = Fw.wpG P ops St (Fw.wpG P ops St L pl) l := by
  intro l
  induction l with
  | nil => rfl
  | cons m l ih => funext a S; cases m <;> simp only [List.cons_append, Fw.wpG, ih]
/-- An order, beside which one allocation may come at any time; pl is what waits for it. -/
def OrderF (md : Region.Mode) (ops : Array Oper) (n g : Nat) (kd : Nat → Nat) (fi : Nat) (pl : List Mv) : List Mv → Array Bool → Prop
  | [], listed => (fi < n ∧ kd fi = 1 ∧ fi ∈ Region.ready md ops listed) ∧ (∀ j, j ∈ Region.ready md ops listed → j = fi) ∧ Order md ops n g kd pl (listed.setIfInBounds fi true)
  | .q i :: r, listed => i < n ∧ (kd i ≠ 1 ∧ kd i ≠ 3) ∧ i ∈ Region.ready md ops listed ∧ (∀ oi, ops[i]? = some oi → ∀ j oj, ops[j]? = some oj → j ≠ i → listed.getD j true = false → (∀ e ∈ oj.after, Region.binds md e = true → e.on ≠ i) → oi.apart ops oj = true) ∧
      (∀ j, kd j = 3 → listed.getD j true = false → Upto md ops j i) ∧ OrderF md ops n g kd fi pl r (listed.setIfInBounds i true)
  | .p i :: r, listed => i < n ∧ (kd i ≠ 1 ∧ kd i ≠ 3) ∧ i ∈ Region.ready md ops listed ∧ (∀ oi, ops[i]? = some oi → ∀ j oj, ops[j]? = some oj → j ≠ i → listed.getD j true = false → (∀ e ∈ oj.after, Region.binds md e = true → e.on ≠ i) → oi.apart ops oj = true) ∧
      OrderF md ops n g kd fi pl r (listed.setIfInBounds i true)
  | .g i :: r, listed => (i < n ∧ kd i = 1 ∧ i ∈ Region.ready md ops listed) ∧ (fi < n ∧ kd fi = 1 ∧ fi ∈ Region.ready md ops listed) ∧ (∀ j, j ∈ Region.ready md ops listed → j = i ∨ j = fi) ∧ Order md ops n g kd (.g i :: (r ++ pl)) (listed.setIfInBounds fi true) ∧ OrderF md ops n g kd fi pl r (listed.setIfInBounds i true)
  | .c i :: r, listed => (i < n ∧ kd i = 3 ∧ i ∈ Region.ready md ops listed) ∧ (fi < n ∧ kd fi = 1 ∧ fi ∈ Region.ready md ops listed) ∧ (∀ j, j ∈ Region.ready md ops listed → j = i ∨ j = fi) ∧ Order md ops n g kd (.c i :: (r ++ pl)) (listed.setIfInBounds fi true) ∧ OrderF md ops n g kd fi pl r (listed.setIfInBounds i true)
  | .gg _ _ :: _, _ => False
/-- The claims are bounded, too. -/
theorem Alt.bd {o : Oper} {K : Post} {K' : Fw.Post} {a : Act} {S : WP} {B : BP} (hS : Fw.Stable S ∧ ∀ w, S w → St w) (hBd : ∀ w, S w → ∀ b, B b → b < w.heap.size)
    (h : ∀ u S B, (Fw.Stable S ∧ ∀ w, S w → St w) → (∀ w, S w → ∀ b, B b → b < w.heap.size) → K (a.put o.dst u) S B → K' (a.put o.dst u) S) : ∀ {k : Nat}, Alt P St o K a S B k → Fw.Alt P St o K' a S k := by
  intro k hh
  unfold Alt at hh
  unfold Fw.Alt
  split
  · obtain ⟨N, h1, h2⟩ := hh
    exact ⟨fun u S' => ∃ B', N u S' B', fun w hw => atR_mono (h1 w hw) fun u w' ⟨S', B', x1, x2, _⟩ => ⟨S', ⟨B', x1⟩, x2⟩, fun u S' ⟨B', x⟩ => let ⟨a1, a2, a4, a3⟩ := h2 u S' B' x; ⟨a1, a2, h _ _ _ ⟨a1, fun w hw => hS.2 w (a2 w hw)⟩ a4 a3⟩⟩
  · obtain ⟨N, h1, h2⟩ := hh
    exact ⟨fun u S' => ∃ B', N u S' B', fun w hw => atR_mono (h1 w hw) fun u w' ⟨S', B', x1, x2, _⟩ => ⟨S', ⟨B', x1⟩, x2⟩, fun u S' ⟨B', x⟩ => let ⟨a1, a2, a4, a3⟩ := h2 u S' B' x; ⟨a1, a2, h _ _ _ ⟨a1, a2⟩ a4 a3⟩⟩
  · rename_i hn1 hn3
    split at hh
    · exact absurd rfl hn1
    · exact absurd rfl hn3
    · obtain ⟨v, h1, h2⟩ := hh; exact ⟨v, h1, h _ _ _ hS hBd h2⟩
/-- A head's way, beside which one allocation may come at any time. -/
theorem walkF {md : Region.Mode} {n g fi : Nat} {kd : Nat → Nat} {fo : Oper} {L : Fw.Post} {pl : List Mv} {mk : Nat → Value} {c : Array Value} {t : TypeId} (hsel : Region.noSelect ops = true) (hT : TailW md ops n) (hfo : ops[fi]? = some fo) (hwf : ∀ a : Act, Region.wanted fo (yielded ops a.tmps) = true) :
    ∀ (l : List Mv) (listed : Array Bool) (a : Act) (S : WP) (B : BP), (∀ w, St w → atA P fo a w mk c t) → (Fw.Stable S ∧ ∀ w, S w → St w) → (∀ w, S w → ∀ b, B b → b < w.heap.size) → (∀ m ∈ l, ∀ o, ops[mvI m]? = some o → fo.apart ops o = true) → HeadInv md ops n listed → OrderF md ops n g kd fi pl l listed →
      wpV P ops St (fun a' S' B' => ∀ b, ¬ B' b → Fw.Stable (Fw.With S' b c t) → Fw.wpG P ops St L pl (a'.put fo.dst (mk b)) (Fw.With S' b c t)) l a S B →
      Fw.wpAnyG P md ops St kd n (fun listed' a' S' => Region.seqB md ops g n listed' = true ∧ L a' S') (counts (l ++ pl) + 1) listed a S := by
  have hfs : ∀ cs b, fo.op ≠ .select cs b := fun cs b => Region.noSelect_spec hsel fi fo cs b hfo
  have early : ∀ (l : List Mv) (listed : Array Bool) (a : Act) (S : WP) (B : BP), (∀ w, St w → atA P fo a w mk c t) → (Fw.Stable S ∧ ∀ w, S w → St w) → (∀ w, S w → ∀ b, B b → b < w.heap.size) → (∀ m ∈ l, ∀ o, ops[mvI m]? = some o → fo.apart ops o = true) → HeadInv md ops n listed → (fi < n ∧ kd fi = 1 ∧ fi ∈ Region.ready md ops listed) → Order md ops n g kd (l ++ pl) (listed.setIfInBounds fi true) →
      wpV P ops St (fun a' S' B' => ∀ b, ¬ B' b → Fw.Stable (Fw.With S' b c t) → Fw.wpG P ops St L pl (a'.put fo.dst (mk b)) (Fw.With S' b c t)) l a S B →
      Fw.gOp P ops St kd fi (Fw.wpAnyG P md ops St kd n (fun listed' a' S' => Region.seqB md ops g n listed' = true ∧ L a' S') (counts (l ++ pl)) (listed.setIfInBounds fi true)) a S := by
    intro l listed a S B hmk hS hBd hap inv hf hO h
    unfold Fw.gOp
    simp only [hfo, hwf, if_true, hf.2.1]
    refine ⟨_, fun w hc => Fw.with_of_A hS.1 hc (hmk w (hS.2 w hc)), fun v S1 ⟨b, ⟨w0, x1, x2⟩, e1, e2⟩ => ?_⟩
    subst e1; subst e2
    have hb : ¬ B b := fun hB => by have := hBd w0 x1 b hB; omega
    have hS' : Fw.Stable (Fw.With S b c t) ∧ ∀ w, Fw.With S b c t w → St w := ⟨Fw.With.stable hS.1, fun w hw => hS.2 w hw.1⟩
    refine ⟨Fw.With.stable hS.1, fun w hw => hw.1, Fw.wpAnyG_of_walk hsel hT (l ++ pl) _ _ _ hS' (inv.set hf.2.2 hf.1) hO ?_⟩
    rw [wpG_app]
    exact wpV.to (L := fun a S _ => Fw.Stable S → Fw.wpG P ops St L pl a S) (L2 := Fw.wpG P ops St L pl) (fun a S B hS h => h hS.1) l _ _ B hS' (wpV.float (L' := fun a S _ => Fw.Stable S → Fw.wpG P ops St L pl a S) (fun j o cs b ho => Region.noSelect_spec hsel j o cs b ho) (fun a0 S0 B' hn hl => hl b hn) l a S B hap hb h)
  have keepA : ∀ {m : Mv} {o : Oper} {a : Act} (v : Value), fo.apart ops o = true → (∀ w, St w → atA P fo a w mk c t) → ∀ w, St w → atA P fo (a.put o.dst v) w mk c t := fun {m o a} v hap h w hw => by
    obtain ⟨p1, p2, p3⟩ := Oper.apart_spec hap
    exact atR_same (put_size _ _ _) (execOp_put fo hfs a o.dst v p3) (h w hw)
  intro l
  induction l with
  | nil =>
    intro listed a S B hmk hS hBd hap inv hO h
    obtain ⟨hf, hr', hq⟩ := hO
    refine ⟨fun e => (by have := hf.2.2; rw [e] at this; cases this), fun j hj => ?_⟩
    obtain rfl := hr' j hj
    exact ⟨hf.1, early [] listed a S B hmk hS hBd hap inv hf hq h⟩
  | cons m l ih =>
    intro listed a S B hmk hS hBd hap inv hO h
    have hap' : ∀ m' ∈ l, ∀ o, ops[mvI m']? = some o → fo.apart ops o = true := fun m' hm => hap m' (by simp [hm])
    cases m with
    | q i =>
      obtain ⟨o, ho, v, hy, hK⟩ := h
      obtain ⟨hin, hk, hr, hf, hc, hB'⟩ := hO
      exact Fw.wpAnyG_first ho hk (Region.noSelect_spec hsel) hT hin (fun listed' a' S' hL => seqB_ready hL.1) (counts (l ++ pl) + 1) listed a S hS inv (hf o ho) (.inr hc) hr hy
        (ih _ _ S B (keepA (m := .q i) v (hap (.q i) (by simp) o ho) hmk) hS hBd hap' (inv.set hr hin) hB' hK)
    | p i =>
      obtain ⟨o, ho, v, hy, hK⟩ := h
      obtain ⟨hin, hk, hr, hf, hB'⟩ := hO
      exact Fw.wpAnyG_first ho hk (Region.noSelect_spec hsel) hT hin (fun listed' a' S' hL => seqB_ready hL.1) (counts (l ++ pl) + 1) listed a S hS inv (hf o ho) (.inl rfl) hr hy
        (ih _ _ S B (keepA (m := .p i) v (hap (.p i) (by simp) o ho) hmk) hS hBd hap' (inv.set hr hin) hB' hK)
    | g i =>
      have h0 := h
      obtain ⟨o, ho, h1⟩ := h
      obtain ⟨hi, hf, hr', hO1, hO2⟩ := hO
      refine ⟨fun e => (by have := hf.2.2; rw [e] at this; cases this), fun j hj => ?_⟩
      rcases hr' j hj with rfl | rfl
      · refine ⟨hi.1, ?_⟩
        unfold Fw.gOp
        rcases h1 with ⟨hw, h1⟩ | ⟨hw, h1⟩
        · simp only [ho, hw, if_true, hi.2.1]
          exact h1.bd hS hBd fun u S' B' hS' hBd' hk => ih _ _ S' B' (keepA (m := .g j) u (hap (.g j) (by simp) o ho) hmk) hS' hBd' hap' (inv.set hi.2.2 hi.1) hO2 hk
        · simp only [ho, hw, Bool.false_eq_true, if_false]
          exact ih _ _ S B (keepA (m := .g j) undef (hap (.g j) (by simp) o ho) hmk) hS hBd hap' (inv.set hi.2.2 hi.1) hO2 h1
      · exact ⟨hf.1, early (.g i :: l) listed a S B hmk hS hBd hap inv hf hO1 h0⟩
    | c i =>
      have h0 := h
      obtain ⟨o, ho, hw, h1⟩ := h
      obtain ⟨hi, hf, hr', hO1, hO2⟩ := hO
      refine ⟨fun e => (by have := hf.2.2; rw [e] at this; cases this), fun j hj => ?_⟩
      rcases hr' j hj with rfl | rfl
      · refine ⟨hi.1, ?_⟩
        unfold Fw.gOp
        simp only [ho, hw, if_true, hi.2.1]
        exact h1.bd hS hBd fun u S' B' hS' hBd' hk => ih _ _ S' B' (keepA (m := .c j) u (hap (.c j) (by simp) o ho) hmk) hS' hBd' hap' (inv.set hi.2.2 hi.1) hO2 hk
      · exact ⟨hf.1, early (.c i :: l) listed a S B hmk hS hBd hap inv hf hO1 h0⟩
    | gg i j => exact h.elim
def isQP : Mv → Bool
  | .q _ | .p _ => true
  | _ => false
/-- Ahead of it, what the allocation is made of. -/
theorem walkF0 {md : Region.Mode} {n g fi : Nat} {kd : Nat → Nat} {fo : Oper} {L : Fw.Post} {pl : List Mv} (hsel : Region.noSelect ops = true) (hT : TailW md ops n) (hfo : ops[fi]? = some fo) (hwf : ∀ a : Act, Region.wanted fo (yielded ops a.tmps) = true) {l2 : List Mv} (hap : ∀ m ∈ l2, ∀ o, ops[mvI m]? = some o → fo.apart ops o = true) :
    ∀ (l : List Mv) (listed : Array Bool) (a : Act) (S : WP) (B : BP), (∀ m ∈ l, isQP m = true) → (Fw.Stable S ∧ ∀ w, S w → St w) → (∀ w, S w → ∀ b, B b → b < w.heap.size) → HeadInv md ops n listed → OrderF md ops n g kd fi pl (l ++ l2) listed →
      wpV P ops St (fun a1 S1 B1 => (Fw.Stable S1 ∧ ∀ w, S1 w → St w) → (∀ w, S1 w → ∀ b, B1 b → b < w.heap.size) → ∃ (mk : Nat → Value) (c : Array Value) (t : TypeId), (∀ w, St w → atA P fo a1 w mk c t) ∧ wpV P ops St (fun a' S' B' => ∀ b, ¬ B' b → Fw.Stable (Fw.With S' b c t) → Fw.wpG P ops St L pl (a'.put fo.dst (mk b)) (Fw.With S' b c t)) l2 a1 S1 B1) l a S B →
      Fw.wpAnyG P md ops St kd n (fun listed' a' S' => Region.seqB md ops g n listed' = true ∧ L a' S') (counts (l ++ l2 ++ pl) + 1) listed a S
  | [], listed, a, S, B, hq, hS, hBd, inv, hO, h => by
    obtain ⟨mk, c, t, h1, h2⟩ := h hS hBd
    exact walkF hsel hT hfo hwf l2 listed a S B h1 hS hBd hap inv hO h2
  | .q i :: l, listed, a, S, B, hq, hS, hBd, inv, hO, h => by
    obtain ⟨o, ho, v, hy, hK⟩ := h
    obtain ⟨hin, hk, hr, hf, hc, hB'⟩ := hO
    exact Fw.wpAnyG_first ho hk (Region.noSelect_spec hsel) hT hin (fun listed' a' S' hL => seqB_ready hL.1) (counts (l ++ l2 ++ pl) + 1) listed a S hS inv (hf o ho) (.inr hc) hr hy
      (walkF0 hsel hT hfo hwf hap l _ _ S B (fun m hm => hq m (by simp [hm])) hS hBd (inv.set hr hin) hB' hK)
  | .p i :: l, listed, a, S, B, hq, hS, hBd, inv, hO, h => by
    obtain ⟨o, ho, v, hy, hK⟩ := h
    obtain ⟨hin, hk, hr, hf, hB'⟩ := hO
    exact Fw.wpAnyG_first ho hk (Region.noSelect_spec hsel) hT hin (fun listed' a' S' hL => seqB_ready hL.1) (counts (l ++ l2 ++ pl) + 1) listed a S hS inv (hf o ho) (.inl rfl) hr hy
      (walkF0 hsel hT hfo hwf hap l _ _ S B (fun m hm => hq m (by simp [hm])) hS hBd (inv.set hr hin) hB' hK)
  | .g i :: l, listed, a, S, B, hq, hS, hBd, inv, hO, h => by cases hq (.g i) (by simp)
  | .c i :: l, listed, a, S, B, hq, hS, hBd, inv, hO, h => by cases hq (.c i) (by simp)
  | .gg i j :: l, listed, a, S, B, hq, hS, hBd, inv, hO, h => by cases hq (.gg i j) (by simp)
end
section table
variable {md : Region.Mode} {l : List Oper} {T0 : List Row4}
/-- The allocation beside is ready. -/
def fB (T0 : List Row4) (C G n fi D : Nat) : Bool := Nat.blt fi n && !has C fi && has G fi && (match T0[fi]? with | some x => readyM D x | none => false)
def addF (fi : Nat) (ord : List (Mv × Nat)) : List (Mv × Nat) := ord.map fun p => (p.1, Nat.lor p.2 (Nat.shiftLeft 1 fi))
def orderFM (T0 : List Row4) (C G n g : Nat) (tl : List (Nat × Nat)) (fi : Nat) (po : List (Mv × Nat)) : List (Mv × Nat) → Nat → Bool
  | [], D => fB T0 C G n fi D && onlyM D (Nat.shiftLeft 1 fi) T0 && orderM T0 C G n g tl po (Nat.lor D (Nat.shiftLeft 1 fi))
  | (.q i, D') :: r, D => Nat.blt i n && !has C i && !has G i && Nat.beq D' (Nat.lor D (Nat.shiftLeft 1 i)) && (match T0[i]? with | some x => readyM D x && freeM D x T0 | none => false) && chgM C D i T0 && orderFM T0 C G n g tl fi po r D'
  | (.p i, D') :: r, D => Nat.blt i n && !has C i && !has G i && Nat.beq D' (Nat.lor D (Nat.shiftLeft 1 i)) && (match T0[i]? with | some x => readyM D x && freeM D x T0 | none => false) && orderFM T0 C G n g tl fi po r D'
  | (.g i, D') :: r, D => Nat.blt i n && !has C i && has G i && Nat.beq D' (Nat.lor D (Nat.shiftLeft 1 i)) && (match T0[i]? with | some x => readyM D x | none => false) && fB T0 C G n fi D && onlyM D (Nat.lor (Nat.shiftLeft 1 i) (Nat.shiftLeft 1 fi)) T0 && orderM T0 C G n g tl (addF fi ((.g i, D') :: r) ++ po) (Nat.lor D (Nat.shiftLeft 1 fi)) && orderFM T0 C G n g tl fi po r D'
  | (.c i, D') :: r, D => Nat.blt i n && has C i && Nat.beq D' (Nat.lor D (Nat.shiftLeft 1 i)) && (match T0[i]? with | some x => readyM D x | none => false) && fB T0 C G n fi D && onlyM D (Nat.lor (Nat.shiftLeft 1 i) (Nat.shiftLeft 1 fi)) T0 && orderM T0 C G n g tl (addF fi ((.c i, D') :: r) ++ po) (Nat.lor D (Nat.shiftLeft 1 fi)) && orderFM T0 C G n g tl fi po r D'
  | (.gg _ _, _) :: _, _ => false
theorem addF_fst (fi : Nat) (ord : List (Mv × Nat)) : (addF fi ord).map (·.1) = ord.map (·.1) := by
  simp [addF]
variable (ht : tableB md l.toArray 0 l T0 = true)
include ht
theorem fB_spec {C G n fi D : Nat} {listed : Array Bool} (hL : Lst l.toArray D listed) (h : fB T0 C G n fi D = true) : (fi < n ∧ kinds C G fi = 1 ∧ fi ∈ Region.ready md l.toArray listed) ∧ fi < l.toArray.size := by
  simp only [fB, Bool.and_eq_true, Bool.not_eq_true'] at h
  obtain ⟨⟨⟨hn, hC⟩, hG⟩, hx⟩ := h
  cases hT : T0[fi]? with
  | none => rw [hT] at hx; cases hx
  | some x =>
    rw [hT] at hx
    obtain ⟨o, hoi, rfl⟩ := row_get ht hT
    have hi : fi < l.toArray.size := by simpa using (List.getElem?_eq_some_iff.1 hoi).1
    exact ⟨⟨Nat.le_of_ble_eq_true hn, by simp [kinds, hC, hG], (ready_bit hL hoi).2 hx⟩, hi⟩
theorem two_spec {D i fi : Nat} {listed : Array Bool} (hL : Lst l.toArray D listed) (h : onlyM D (Nat.lor (Nat.shiftLeft 1 i) (Nat.shiftLeft 1 fi)) T0 = true) (j : Nat) (hj : j ∈ Region.ready md l.toArray listed) : j = i ∨ j = fi := by
  have := only_spec ht hL h j hj
  rw [bit_lor, bit_shift, bit_shift, Bool.or_eq_true] at this
  exact this.imp (fun e => (of_decide_eq_true e).symm) (fun e => (of_decide_eq_true e).symm)
theorem orderF_spec {C G n g fi : Nat} {tl : List (Nat × Nat)} {po : List (Mv × Nat)} : ∀ (ord : List (Mv × Nat)) (D : Nat) (listed : Array Bool), Lst l.toArray D listed → orderFM T0 C G n g tl fi po ord D = true → OrderF md l.toArray n g (kinds C G) fi (po.map (·.1)) (ord.map (·.1)) listed
  | [], D, listed, hL, h => by
    simp only [orderFM, Bool.and_eq_true] at h
    obtain ⟨⟨h1, h2⟩, h3⟩ := h
    obtain ⟨hf, hfi⟩ := fB_spec ht hL h1
    exact ⟨hf, fun j hj => by have := only_spec ht hL h2 j hj; rw [bit_shift] at this; exact (of_decide_eq_true this).symm, order_spec ht _ _ _ (hL.set hfi) h3⟩
  | (.q i, D') :: r, D, listed, hL, h => by
    simp only [orderFM, Bool.and_eq_true, Bool.not_eq_true'] at h
    obtain ⟨⟨⟨⟨⟨⟨hn, hC⟩, hG⟩, hD⟩, hx⟩, hc⟩, h2⟩ := h
    obtain rfl := Nat.eq_of_beq_eq_true hD
    cases hT : T0[i]? with
    | none => rw [hT] at hx; cases hx
    | some x =>
      rw [hT] at hx
      simp only [Bool.and_eq_true] at hx
      obtain ⟨o, hoi, rfl⟩ := row_get ht hT
      have hi : i < l.toArray.size := by simpa using (List.getElem?_eq_some_iff.1 hoi).1
      exact ⟨Nat.le_of_ble_eq_true hn, by simp [kinds, hC, hG], (ready_bit hL hoi).2 hx.1, free_spec ht hT hL hx.2, chg_spec ht hL hc, orderF_spec r _ _ (hL.set hi) h2⟩
  | (.p i, D') :: r, D, listed, hL, h => by
    simp only [orderFM, Bool.and_eq_true, Bool.not_eq_true'] at h
    obtain ⟨⟨⟨⟨⟨hn, hC⟩, hG⟩, hD⟩, hx⟩, h2⟩ := h
    obtain rfl := Nat.eq_of_beq_eq_true hD
    cases hT : T0[i]? with
    | none => rw [hT] at hx; cases hx
    | some x =>
      rw [hT] at hx
      simp only [Bool.and_eq_true] at hx
      obtain ⟨o, hoi, rfl⟩ := row_get ht hT
      have hi : i < l.toArray.size := by simpa using (List.getElem?_eq_some_iff.1 hoi).1
      exact ⟨Nat.le_of_ble_eq_true hn, by simp [kinds, hC, hG], (ready_bit hL hoi).2 hx.1, free_spec ht hT hL hx.2, orderF_spec r _ _ (hL.set hi) h2⟩
  | (.g i, D') :: r, D, listed, hL, h => by
    simp only [orderFM, Bool.and_eq_true, Bool.not_eq_true'] at h
    obtain ⟨⟨⟨⟨⟨⟨⟨⟨hn, hC⟩, hG⟩, hD⟩, hx⟩, hf⟩, hc⟩, ho⟩, h2⟩ := h
    obtain ⟨hf, hfi⟩ := fB_spec ht hL hf
    have ho' := order_spec ht _ _ _ (hL.set hfi) ho
    rw [List.map_append, addF_fst] at ho'
    obtain rfl := Nat.eq_of_beq_eq_true hD
    cases hT : T0[i]? with
    | none => rw [hT] at hx; cases hx
    | some x =>
      rw [hT] at hx
      obtain ⟨o, hoi, rfl⟩ := row_get ht hT
      have hi : i < l.toArray.size := by simpa using (List.getElem?_eq_some_iff.1 hoi).1
      exact ⟨⟨Nat.le_of_ble_eq_true hn, by simp [kinds, hC, hG], (ready_bit hL hoi).2 hx⟩, hf, two_spec ht hL hc, ho', orderF_spec r _ _ (hL.set hi) h2⟩
  | (.c i, D') :: r, D, listed, hL, h => by
    simp only [orderFM, Bool.and_eq_true, Bool.not_eq_true'] at h
    obtain ⟨⟨⟨⟨⟨⟨⟨hn, hC⟩, hD⟩, hx⟩, hf⟩, hc⟩, ho⟩, h2⟩ := h
    obtain ⟨hf, hfi⟩ := fB_spec ht hL hf
    have ho' := order_spec ht _ _ _ (hL.set hfi) ho
    rw [List.map_append, addF_fst] at ho'
    obtain rfl := Nat.eq_of_beq_eq_true hD
    cases hT : T0[i]? with
    | none => rw [hT] at hx; cases hx
    | some x =>
      rw [hT] at hx
      obtain ⟨o, hoi, rfl⟩ := row_get ht hT
      have hi : i < l.toArray.size := by simpa using (List.getElem?_eq_some_iff.1 hoi).1
      exact ⟨⟨Nat.le_of_ble_eq_true hn, by simp [kinds, hC], (ready_bit hL hoi).2 hx⟩, hf, two_spec ht hL hc, ho', orderF_spec r _ _ (hL.set hi) h2⟩
  | (.gg i j, D') :: r, D, listed, hL, h => by cases h
end table
section region
variable {P : Program}
/-- What is asked of a region whose head has an allocation that may come at any time. -/
def regionFB (md : Region.Mode) (l : List Oper) (n C G : Nat) (T0 : List Row4) (ord : List (Mv × Nat)) (tl : List (Nat × Nat)) (fi k : Nat) (po : List (Mv × Nat)) (fo : Oper) : Bool :=
  tableB md l.toArray 0 l T0 && Region.noSelect l.toArray && (Nat.beq n l.length || (Nat.blt n l.length && sinkM n T0 && chainM n T0)) && Nat.beq (counts (ord.map (·.1) ++ po.map (·.1)) + 1) n && Nat.ble n l.length && orderFM T0 C G n (l.length - n) tl fi po ord 0 &&
    (((ord.map (·.1)).drop k).all fun m => match l.toArray[mvI m]? with | some o => fo.apart l.toArray o | none => true) && ((ord.map (·.1)).take k).all isQP && fo.guard.isNone
theorem wpAny_region_float {Q : Exit → Act → World → Prop} {a : Act} {w : World} {l : List Oper} (n C G : Nat) (T0 : List Row4) (ord : List (Mv × Nat)) (tl : List (Nat × Nat)) (fi k : Nat) (po : List (Mv × Nat)) {fo : Oper} (St S : WP) (B : BP) (hSt : ∀ w, S w → St w) (hSS : Fw.Stable S) (hBd : ∀ w, S w → ∀ b, B b → b < w.heap.size)
    (hB : regionFB .any l n C G T0 ord tl fi k po fo = true) (hfo : l.toArray[fi]? = some fo) (hO : S w.drew)
    (h : wpV P l.toArray St (fun a1 S1 B1 => (Fw.Stable S1 ∧ ∀ w, S1 w → St w) → (∀ w, S1 w → ∀ b, B1 b → b < w.heap.size) → ∃ (mk : Nat → Value) (c : Array Value) (t : TypeId), (∀ w, St w → atA P fo a1 w mk c t) ∧ wpV P l.toArray St (fun a' S' B' => ∀ b, ¬ B' b → Fw.Stable (Fw.With S' b c t) → Fw.wpG P l.toArray St (fun a2 S2 => ∀ w', Fw.Stable S2 → S2 w' → wpList P l.toArray Q (l.drop n) a2 w') (po.map (·.1)) (a'.put fo.dst (mk b)) (Fw.With S' b c t)) ((ord.map (·.1)).drop k) a1 S1 B1) ((ord.map (·.1)).take k) a S B) : wpAny P .any l.toArray Q l.toArray.size (Array.replicate l.toArray.size false) a w.drew := by
  simp only [regionFB, Bool.and_eq_true] at hB
  obtain ⟨⟨⟨⟨⟨⟨⟨⟨ht, hsel⟩, hT⟩, hlen⟩, hn⟩, hord⟩, hap⟩, hqp⟩, hg⟩ := hB
  have hlen := Nat.eq_of_beq_eq_true hlen
  have hn := Nat.le_of_ble_eq_true hn
  have hg0 : fo.guard = none := by simpa using hg
  have hdl : (l.drop n).length = l.length - n := by simp
  have inv0 : HeadInv .any l.toArray n (Array.replicate l.toArray.size false) :=
    ⟨by simp, fun j oj _ hl => (by rw [getD_replicate_false] at hl; cases hl), fun t _ ht => getD_in (by simpa using ht) (getD_replicate_false _ _)⟩
  have hL0 : Lst l.toArray 0 (Array.replicate l.toArray.size false) := ⟨by simp, fun j => by rw [getD_replicate_false]; simp⟩
  have hap' : ∀ m ∈ (ord.map (·.1)).drop k, ∀ o, l.toArray[mvI m]? = some o → fo.apart l.toArray o = true := fun m hm o ho => by
    have := List.all_eq_true.1 hap m hm
    rw [ho] at this
    exact this
  have hOF := orderF_spec ht ord 0 _ hL0 hord
  rw [← List.take_append_drop k (ord.map (·.1))] at hOF
  have HH := walkF0 (md := .any) (L := fun a' S' => ∀ w', Fw.Stable S' → S' w' → wpList P l.toArray Q (l.drop n) a' w') hsel (tail_spec ht hT) hfo (fun a => by simp [Region.wanted, hg0]) hap' ((ord.map (·.1)).take k) _ a S B (fun m hm => List.all_eq_true.1 hqp m hm) ⟨hSS, hSt⟩ hBd inv0 hOF h
  rw [List.take_append_drop] at HH
  have := Fw.wpAny_of_G (Q' := Q) (g := l.length - n) (fun listed a' S w' hS hC hL => by
    have := wpAny_of_seq (md := .any) (Q' := Q) (l.drop n) n listed a' w' (fun j => by simp [List.getElem?_drop]) (by rw [hdl]; exact hL.1) (hL.2 w' hS hC)
    rwa [hdl] at this) _ _ _ _ _ hSS hO HH
  rw [hlen, show n + (l.length - n) = l.toArray.size by simp; omega] at this
  exact this
theorem wp_region_float {id : Nat} {Q : Exit → Act → World → Prop} {a : Act} {w : World} {l : List Oper} (n C G : Nat) (T0 : List Row4) (ord : List (Mv × Nat)) (tl : List (Nat × Nat)) (fi k : Nat) (po : List (Mv × Nat)) {fo : Oper} (St S : WP) (B : BP) (hSt : ∀ w, S w → St w) (hSS : Fw.Stable S) (hBd : ∀ w, S w → ∀ b, B b → b < w.heap.size) (hm : P.follows .mixedOrders = true)
    (hB : regionFB .any l n C G T0 ord tl fi k po fo = true) (hfo : l.toArray[fi]? = some fo) (hO : S w.drew)
    (h : wpV P l.toArray St (fun a1 S1 B1 => (Fw.Stable S1 ∧ ∀ w, S1 w → St w) → (∀ w, S1 w → ∀ b, B1 b → b < w.heap.size) → ∃ (mk : Nat → Value) (c : Array Value) (t : TypeId), (∀ w, St w → atA P fo a1 w mk c t) ∧ wpV P l.toArray St (fun a' S' B' => ∀ b, ¬ B' b → Fw.Stable (Fw.With S' b c t) → Fw.wpG P l.toArray St (fun a2 S2 => ∀ w', Fw.Stable S2 → S2 w' → wpList P l.toArray Q (l.drop n) a2 w') (po.map (·.1)) (a'.put fo.dst (mk b)) (Fw.With S' b c t)) ((ord.map (·.1)).drop k) a1 S1 B1) ((ord.map (·.1)).take k) a S B) : (Code.region id l.toArray true).wp P Q a w :=
  wp_region_any hm (wpAny_region_float n C G T0 ord tl fi k po St S B hSt hSS hBd hB hfo hO h)
end region
end Fv
end Go.Proofs.Ytcfomhnfhalmaaa
end

section
set_option linter.unusedVariables false
set_option linter.unusedSimpArgs false
namespace Go.Proofs.Ytcfomhnfhalmaaa
open Go.RowKit

section
structure Env where
  P : Program
  eqs : TypeId → Option (List IntKind)
  rows : Rws
  ctr : FuncId → Option (List AV → Mem → Option VC)
  ctm : FuncId → Option (List AV → Mem → (Nat → Bool) → Option (AV × Mem × List Bool))
  pure : FuncId → Bool
  gen : FuncId → Bool
  eff : FuncId → Bool
/-- Memory: the known blocks; what the tests on variables say; of what labels blocks may be written. -/
structure AM where
  H : Mem
  ds : List Bool
  wr : Nat → Bool
structure ASt where
  tl : List AV
  m : AM
def allT : List Bool → Prop → Prop
  | [], p => p
  | c :: r, p => c = true ∧ allT r p
def evO (tl : List AV) : Operand → Option AV
  | .tmp t => tl[t]?
  | .const v => some (.ofValue v)
  | .func f => some (.func (.func f) [])
  | .global _ => none
def putA (tl : List AV) (d : Option Tmp) (v : AV) : List AV := match d with
  | some d => tl.set d v
  | none => tl
def ASt.put (st : ASt) (d : Option Tmp) (v : AV) : ASt := ⟨putA st.tl d v, st.m⟩
inductive AExit where
  | normal | exit (id : Nat) | goto (l : Nat) | ret
abbrev CallF := FuncId → List AV → AM → (AV → AM → Prop) → Prop
section
variable (E : Env) (call : CallF)
/-- A call from outside: by what is known of it, or carried out; p: it must write nothing of the caller's. -/
def callP (p : Bool) (f : FuncId) (args : List AV) (m : AM) (K : AV → AM → Prop) : Prop :=
  match E.ctr f with
  | some F => match F args m.H with
    | some (v, cs) => allT cs (K v m)
    | none => False
  | none => match E.ctm f with
    | some F => bif p then False else match F args m.H m.wr with
      | some (v, H', cs) => allT cs (K v ⟨H', m.ds, m.wr⟩)
      | none => False
    | none => bif p || E.pure f then call f args ⟨m.H, m.ds, fun l => Nat.ble m.H.length l⟩ (fun v m' => match v.told? with
        | some _ => K v ⟨m.H, m'.ds, m.wr⟩
        | none => False)
      else call f args m K
/-- Readers of what is written through l know nothing any more. -/
def dropR (l : Nat) (H : Mem) : Mem := dropI (fun k it => !Nat.beq k l && Nat.beq (it.owner k) l) H
/-- What comes of an operation that is no call. -/
def resP (p : Bool) (r : Res) (o : Oper) (st : ASt) (K : ASt → Prop) : Prop :=
  match r with
  | .val v cs => allT cs (K (st.put o.dst v))
  | .new cs t => K ⟨putA st.tl o.dst (.ptr st.m.H.length 0), ⟨st.m.H ++ [.cells cs t], st.m.ds, st.m.wr⟩⟩
  | .newS cs t n c => K ⟨putA st.tl o.dst (.slice st.m.H.length 0 n c), ⟨st.m.H ++ [.cells cs t], st.m.ds, st.m.wr⟩⟩
  | .set l cs none => match st.m.H[l]? with
    | some (.cells _ t) => bif st.m.wr l && !p then K ⟨putA st.tl o.dst undefA, ⟨(dropR l st.m.H).set l (.cells cs t), st.m.ds, st.m.wr⟩⟩ else False
    | _ => False
  | .setR l F cs => match st.m.H[l]? with
    | some (.row n s _ t none) => bif st.m.wr l && !p then allT cs (K ⟨putA st.tl o.dst undefA, ⟨(dropR l st.m.H).set l (.row n s F t none), st.m.ds, st.m.wr⟩⟩) else False
    | _ => False
  | .app l n n' s F t cs => match st.m.H[l]? with
    | some (.row _ _ F0 _ none) => bif st.m.wr l && !p then allT cs (K ⟨putA st.tl o.dst (.gsl .top st.m.H.length 0 n'), ⟨(dropR l st.m.H).set l (.row n s F0 t (some st.m.H.length)) ++ [.row n' s F t none], st.m.ds, st.m.wr⟩⟩) else False
    | _ => False
  | .newR n s F t cs => bif p then False else allT cs (K ⟨putA st.tl o.dst (.gsl .top st.m.H.length 0 n), ⟨st.m.H ++ [.row n s F t none], st.m.ds, st.m.wr⟩⟩)
  | .setW l F v cs => match st.m.H[l]? with
    | some (.row n s _ t none) => bif st.m.wr l && !p then allT cs (K ⟨putA st.tl o.dst v, ⟨(dropR l st.m.H).set l (.row n s F t none), st.m.ds, st.m.wr⟩⟩) else False
    | _ => False
  | .setV l cs v => match st.m.H[l]? with
    | some (.cells _ t) => bif st.m.wr l && !p then K ⟨putA st.tl o.dst v, ⟨(dropR l st.m.H).set l (.cells cs t), st.m.ds, st.m.wr⟩⟩ else False
    | _ => False
  | .newM m => K ⟨putA st.tl o.dst (.mp st.m.H.length), ⟨st.m.H ++ [.map m], st.m.ds, st.m.wr⟩⟩
  | .setM l m => match st.m.H[l]? with
    | some (.map _) => bif st.m.wr l && !p then K ⟨putA st.tl o.dst undefA, ⟨(dropR l st.m.H).set l (.map m), st.m.ds, st.m.wr⟩⟩ else False
    | _ => False
  | _ => False
/-- A function, what it is bound to, what it has caught. -/
def fnA : AV → Option (FuncId × List AV × List AV)
  | .func (.func f) cap => some (f, [], cap)
  | .meth (.func f) fs cap => some (f, fs, cap)
  | _ => none
/-- One operation that is wanted. -/
def doP (p : Bool) (o : Oper) (st : ASt) (K : ASt → Prop) : Prop :=
  match o.op with
  | .call ⟨.value g, args, ts⟩ => match (evO st.tl g).bind fnA, evs (evO st.tl) args.toList with
    | some (f, fs, cap), some vs => callP E call p f (fs ++ vs ++ cap) st.m (fun v m => K ⟨putA st.tl o.dst v, m⟩)
    | _, _ => False
  | op => match opA E.P E.rows E.eqs st.m.H (evO st.tl) op with
    | some r => resP p r o st K
    | none => False
def refineA (tl : List AV) (c : Operand) (z : Bool) : List AV := match c with
  | .tmp t => tl.set t (.bool true z)
  | _ => tl
def notBool : Value → Bool
  | .bool _ => false
  | _ => true
/-- Is it wanted? -/
def guardP (ops : List Oper) (o : Oper) (st : ASt) (yes no : ASt → Prop) : Prop :=
  match o.guard with
  | none => yes st
  | some (j, want) => match (ops[j]?).bind (·.dst) with
    | none => False
    | some d => match st.tl[d]? with
      | some (.bool true b) => bif b == want then yes st else no st
      | some (.bool false b) => match st.m.ds with
        | c :: ds => b = c ∧ (bif c == want then yes ⟨st.tl.set d (.bool true c), ⟨st.m.H, ds, st.m.wr⟩⟩ else no ⟨st.tl.set d (.bool true c), ⟨st.m.H, ds, st.m.wr⟩⟩)
        | [] => False
      | some (.raw v) => bif notBool v then no st else False
      | _ => False
def stepP (p : Bool) (ops : List Oper) (o : Oper) (st : ASt) (K : ASt → Prop) : Prop :=
  guardP ops o st (fun st => doP E call p o st K) (fun st => K (st.put o.dst undefA))
def listP (ops : List Oper) : List Oper → ASt → (ASt → Prop) → Prop
  | [], st, K => K st
  | o :: r, st, K => stepP E call false ops o st (fun st => listP ops r st K)
end
/- A region that draws its order: the head in an order of ours, the tail as it lies. -/
def isMake (o : Oper) : Bool := match o.op with
  | .alloc _ | .box _ _ | .buildSlice _ _ _ | .makeSlice _ _ _ | .makeMap _ _ => true
  | _ => false
def isLate (o : Oper) : Bool := (match o.op with | .store _ _ _ | .assign _ | .mapUpdate _ _ _ _ | .insert _ _ _ _ => true | _ => false) && o.after.toList.any fun e => match e.ground with | .phase => true | _ => false
def dropLate : List Oper → List Oper
  | [] => []
  | o :: r => bif isLate o then dropLate r else o :: r
def rowsFrom (all : Array Oper) : Nat → List Oper → List Row4
  | _, [] => []
  | j, o :: r => rowOf .any all j o :: rowsFrom all (j + 1) r
def isSt (o : Oper) : Bool := match o.op with
  | .store _ _ _ => true
  | _ => false
def isEff (eff : FuncId → Bool) (o : Oper) : Bool := match o.op with
  | .call ⟨.builtin .append, _, _⟩ => true
  | .call ⟨.builtin .copy, _, _⟩ => true
  | .call ⟨.value (.func f), _, _⟩ => eff f
  | .mapUpdate _ _ _ _ => true
  | .insert _ _ _ _ => true
  | _ => false
def storesOf (eff : FuncId → Bool) : Nat → Nat → List Oper → Nat
  | _, _, [] => 0
  | n, j, o :: r => bif (isSt o || isEff eff o) && Nat.blt j n then Nat.lor (Nat.shiftLeft 1 j) (storesOf eff n (j + 1) r) else storesOf eff n (j + 1) r
def firstQ (T0 : List Row4) (G C n D : Nat) : List Row4 → Option Nat
  | [] => none
  | r :: T => bif Nat.blt r.1 n && !has G r.1 && !has C r.1 && readyM D r && freeM D r T0 then some r.1 else firstQ T0 G C n D T
def firstG (G n D : Nat) : List Row4 → Option Nat
  | [] => none
  | r :: T => bif Nat.blt r.1 n && has G r.1 && readyM D r then some r.1 else firstG G n D T
def firstG2 (G n D i : Nat) : List Row4 → Option Nat
  | [] => none
  | r :: T => bif Nat.blt r.1 n && has G r.1 && readyM D r && !Nat.beq r.1 i then some r.1 else firstG2 G n D i T
def ordFrom (T0 : List Row4) (G C n : Nat) : Nat → Nat → List (Mv × Nat)
  | 0, _ => []
  | k + 1, D => match firstQ T0 G C n D T0 with
    | some i => (bif chgM C D i T0 then .q i else .p i, Nat.lor D (Nat.shiftLeft 1 i)) :: ordFrom T0 G C n k (Nat.lor D (Nat.shiftLeft 1 i))
    | none => match firstG G n D T0 with
      | some i => match firstG2 G n D i T0 with
        | none => (.g i, Nat.lor D (Nat.shiftLeft 1 i)) :: ordFrom T0 G C n k (Nat.lor D (Nat.shiftLeft 1 i))
        | some j => (.gg i j, Nat.lor (Nat.lor D (Nat.shiftLeft 1 i)) (Nat.shiftLeft 1 j)) :: ordFrom T0 G C n k (Nat.lor (Nat.lor D (Nat.shiftLeft 1 i)) (Nat.shiftLeft 1 j))
      | none => match firstG C n D T0 with
        | some i => (.c i, Nat.lor D (Nat.shiftLeft 1 i)) :: ordFrom T0 G C n k (Nat.lor D (Nat.shiftLeft 1 i))
        | none => []
def tailFrom : Nat → Nat → Nat → List (Nat × Nat)
  | 0, _, _ => []
  | k + 1, i, D => (i, Nat.lor D (Nat.shiftLeft 1 i)) :: tailFrom k (i + 1) (Nat.lor D (Nat.shiftLeft 1 i))
def isGen (gen : FuncId → Bool) (o : Oper) : Bool := match o.op with
  | .call ⟨.value (.func f), _, _⟩ => gen f
  | _ => false
def makesOf (gen : FuncId → Bool) : Nat → List Oper → Nat
  | _, [] => 0
  | j, o :: r => bif isMake o || isGen gen o then Nat.lor (Nat.shiftLeft 1 j) (makesOf gen (j + 1) r) else makesOf gen (j + 1) r
structure Plan where
  n : Nat
  C : Nat
  G : Nat
  T0 : List Row4
  ord : List (Mv × Nat)
  tl : List (Nat × Nat)
def planAt (gen eff : FuncId → Bool) (l : List Oper) (n : Nat) : Plan :=
  let T0 := rowsFrom l.toArray 0 l
  let G := makesOf gen 0 l
  let C := storesOf eff n 0 l
  ⟨n, C, G, T0, ordFrom T0 G C n n 0, tailFrom (l.length - n) n (Nat.shiftLeft 1 n - 1)⟩
def Plan.ok (l : List Oper) (p : Plan) : Bool := regionB .any l p.n p.C p.G p.T0 p.ord p.tl
def makeAt (l : List Oper) (i : Nat) : Bool := match l[i]? with
  | some o => isMake o
  | none => false
/-- Two calls do not come in any order. -/
def ggOK (l : List Oper) : List (Mv × Nat) → Bool
  | [] => true
  | (.gg i j, _) :: r => makeAt l i && makeAt l j && ggOK l r
  | _ :: r => ggOK l r
def planFrom (gen eff : FuncId → Bool) (l : List Oper) : Nat → Nat → Option Plan
  | 0, _ => none
  | k + 1, n =>
    let p := planAt gen eff l n
    bif p.ok l && ggOK l p.ord then some p else planFrom gen eff l k (n + 1)
def planOf (gen eff : FuncId → Bool) (l : List Oper) : Option Plan := planFrom gen eff l (l.length + 1 - (dropLate l.reverse).length) (dropLate l.reverse).length
/-- The same order, where operation fi is left out: Tf are the rows but its. -/
def ordFromF (T0 Tf : List Row4) (G C n : Nat) : Nat → Nat → List (Mv × Nat)
  | 0, _ => []
  | k + 1, D => match firstQ T0 G C n D Tf with
    | some i => (bif chgM C D i T0 then .q i else .p i, Nat.lor D (Nat.shiftLeft 1 i)) :: ordFromF T0 Tf G C n k (Nat.lor D (Nat.shiftLeft 1 i))
    | none => match firstG G n D Tf with
      | some i => (.g i, Nat.lor D (Nat.shiftLeft 1 i)) :: ordFromF T0 Tf G C n k (Nat.lor D (Nat.shiftLeft 1 i))
      | none => match firstG C n D Tf with
        | some i => (.c i, Nat.lor D (Nat.shiftLeft 1 i)) :: ordFromF T0 Tf G C n k (Nat.lor D (Nat.shiftLeft 1 i))
        | none => []
def planFAt (gen eff : FuncId → Bool) (l : List Oper) (n fi : Nat) : Plan :=
  let T0 := rowsFrom l.toArray 0 l
  let G := makesOf gen 0 l
  let C := storesOf eff n 0 l
  ⟨n, C, G, T0, ordFromF T0 (T0.filter fun r => !Nat.beq r.1 fi) G C n (n - 1) 0, tailFrom (l.length - n) n (Nat.shiftLeft 1 n - 1)⟩
def qpLen : List (Mv × Nat) → Nat
  | (.q _, _) :: r => qpLen r + 1
  | (.p _, _) :: r => qpLen r + 1
  | _ => 0
def noGG : List (Mv × Nat) → Bool
  | [] => true
  | (.gg _ _, _) :: _ => false
  | _ :: r => noGG r
def lastD : Nat → List (Mv × Nat) → Nat
  | D, [] => D
  | _, (_, D) :: r => lastD D r
/-- What waits for operation fi. -/
def postF (gen eff : FuncId → Bool) (l : List Oper) (p : Plan) (fi : Nat) : List (Mv × Nat) := ordFrom p.T0 p.G p.C p.n p.n (Nat.lor (lastD 0 p.ord) (Nat.shiftLeft 1 fi))
def planFi (gen eff : FuncId → Bool) (l : List Oper) (n : Nat) : List Nat → Option (Plan × List (Mv × Nat) × Nat × Nat)
  | [] => none
  | fi :: r => match l[fi]? with
    | some fo => bif isMake fo then (let p := planFAt gen eff l n fi; let k := qpLen p.ord; let po := postF gen eff l p fi; bif noGG p.ord && Fv.regionFB .any l p.n p.C p.G p.T0 p.ord p.tl fi k po fo then some (p, po, fi, k) else planFi gen eff l n r) else planFi gen eff l n r
    | none => planFi gen eff l n r
def planFFrom (gen eff : FuncId → Bool) (l : List Oper) : Nat → Nat → Option (Plan × List (Mv × Nat) × Nat × Nat)
  | 0, _ => none
  | k + 1, n => match planFi gen eff l n (List.range n) with
    | some r => some r
    | none => planFFrom gen eff l k (n + 1)
/-- A plan where one operation that makes a block may come at any time. -/
def planF (gen eff : FuncId → Bool) (l : List Oper) : Option (Plan × List (Mv × Nat) × Nat × Nat) := planFFrom gen eff l (l.length + 1 - ((dropLate l.reverse).length - 6)) ((dropLate l.reverse).length - 6)
section
variable (E : Env) (call : CallF)
/-- What the late block holds. -/
def lateA (tl : List AV) (fo : Oper) : Option (List AV × TypeId × Option (Nat × Nat)) := match opA E.P E.rows E.eqs [] (evO tl) fo.op with
  | some (.new cs t) => bif (AV.vals? cs).isSome then some (cs, t, none) else none
  | some (.newS cs t n c) => bif (AV.vals? cs).isSome then some (cs, t, some (n, c)) else none
  | _ => none
def lateV (h : Nat) : Option (Nat × Nat) → AV
  | none => .ptr h 0
  | some (n, c) => .slice h 0 n c
def lateK (b : Nat) : Option (Nat × Nat) → Value
  | none => .pointer (some ⟨b, 0, none⟩)
  | some (n, c) => .slice (some ⟨b, 0, none⟩) n c
/-- A call that makes blocks and writes none of ours. -/
def callG (f : FuncId) (args : List AV) (m : AM) (K : AV → AM → Prop) : Prop :=
  match E.ctm f with
  | some F => match F args m.H m.wr with
    | some (v, H', cs) => allT cs (K v ⟨H', m.ds, m.wr⟩)
    | none => False
  | none => call f args m K
def genP (o : Oper) (st : ASt) (K : ASt → Prop) : Prop :=
  match o.op with
  | .call ⟨.value g, args, ts⟩ => match evO st.tl g, evs (evO st.tl) args.toList with
    | some (.func (.func f) cap), some vs => callG E call f (vs ++ cap) ⟨st.m.H, st.m.ds, fun l => Nat.ble st.m.H.length l⟩ (fun v m' => K ⟨putA st.tl o.dst v, ⟨m'.H, m'.ds, st.m.wr⟩⟩)
    | _, _ => False
  | _ => False
/-- A reading that may come up before or behind a store. -/
def calmP (stat : Option (Nat → Bool)) (o : Oper) (st : ASt) (K : AV → Prop) : Prop :=
  match opA E.P E.rows E.eqs [] (evO st.tl) o.op with
  | some (.val v cs) => allT cs (K v)
  | _ => match o.op with
    | .load t x => match evO st.tl x with
      | some (.ptr l off) => bif (stat.getD fun _ => false) l then match loadA E.P E.rows st.m.H t (.ptr l off) with
        | some v => K v
        | none => False
        else False
      | _ => False
    | _ => False
/-- What nothing writes is still told by cells. -/
def keepB (s : Nat → Bool) : Nat → Mem → Bool
  | _, [] => true
  | i, it :: r => (bif s i then (match it with | .cells _ _ => true | _ => false) else true) && keepB s (i + 1) r
def headP (h0 : Nat) (stat : Option (Nat → Bool)) (ops : List Oper) : List (Mv × Nat) → ASt → (ASt → Prop) → Prop
  | [], st, K => K st
  | (.q i, _) :: r, st, K => match ops[i]? with
    | some o => bif isMake o then False else stepP E call true ops o st (fun st => headP h0 stat ops r st K)
    | none => False
  | (.g i, _) :: r, st, K => match ops[i]? with
    | some o => bif isMake o then guardP ops o st (fun st => doP E call true o st (fun st => headP h0 stat ops r st K)) (fun st => headP h0 stat ops r (st.put o.dst undefA) K) else
      guardP ops o st (fun st => genP E call o st (fun st2 => bif keepB (stat.getD fun _ => false) 0 st2.m.H then headP h0 stat ops r st2 K else False)) (fun st => headP h0 stat ops r (st.put o.dst undefA) K)
    | none => False
  | (.gg i j, _) :: r, st, K => match ops[i]?, ops[j]? with
    | some o1, some o2 => bif o1.guard.isNone && o2.guard.isNone then
      match opA E.P E.rows E.eqs st.m.H (evO st.tl) o1.op, opA E.P E.rows E.eqs st.m.H (evO st.tl) o2.op with
      | some (.new c1 t1), some (.new c2 t2) => headP h0 stat ops r ⟨putA (putA st.tl o1.dst (.ptr st.m.H.length 0)) o2.dst (.ptr (st.m.H.length + 1) 0), ⟨st.m.H ++ [.cells c1 t1] ++ [.cells c2 t2], st.m.ds, st.m.wr⟩⟩ K
      | _, _ => False
      else False
    | _, _ => False
  | (.p i, _) :: r, st, K => match ops[i]? with
    | some o => guardP ops o st (fun st => calmP E stat o st (fun v => headP h0 stat ops r ⟨putA st.tl o.dst v, st.m⟩ K)) (fun st => headP h0 stat ops r (st.put o.dst undefA) K)
    | none => False
  | (.c i, _) :: r, st, K => match ops[i]? with
    | some o => bif o.guard.isNone then
      match stat with
      | none => doP E call false o ⟨st.tl, ⟨st.m.H, st.m.ds, fun l => st.m.wr l || Nat.ble h0 l⟩⟩ (fun st2 => headP h0 stat ops r ⟨st2.tl, ⟨st2.m.H, st2.m.ds, st.m.wr⟩⟩ K)
      | some s => match opA E.P E.rows E.eqs st.m.H (evO st.tl) o.op with
        | some (.set l cs none) => match st.m.H[l]? with
          | some (.cells _ t) => bif (st.m.wr l || Nat.ble h0 l) && !s l then headP h0 stat ops r ⟨putA st.tl o.dst undefA, ⟨(dropR l st.m.H).set l (.cells cs t), st.m.ds, st.m.wr⟩⟩ K else False
          | _ => False
        | some (.app l n n' sz F t cs) => match st.m.H[l]? with
          | some (.row _ _ _ _ none) => bif st.m.wr l || Nat.ble h0 l then resP false (.app l n n' sz F t cs) o ⟨st.tl, ⟨st.m.H, st.m.ds, fun j => Nat.beq j l⟩⟩ (fun st2 => bif keepB s 0 st2.m.H then headP h0 stat ops r ⟨st2.tl, ⟨st2.m.H, st2.m.ds, st.m.wr⟩⟩ K else False) else False
          | _ => False
        | some (.newR n sz F t cs) => resP false (.newR n sz F t cs) o ⟨st.tl, ⟨st.m.H, st.m.ds, fun _ => false⟩⟩ (fun st2 => bif keepB s 0 st2.m.H then headP h0 stat ops r ⟨st2.tl, ⟨st2.m.H, st2.m.ds, st.m.wr⟩⟩ K else False)
        | some (.setR l F cs) => match st.m.H[l]? with
          | some (.row _ _ _ _ none) => bif st.m.wr l || Nat.ble h0 l then resP false (.setR l F cs) o ⟨st.tl, ⟨st.m.H, st.m.ds, fun j => Nat.beq j l⟩⟩ (fun st2 => bif keepB s 0 st2.m.H then headP h0 stat ops r ⟨st2.tl, ⟨st2.m.H, st2.m.ds, st.m.wr⟩⟩ K else False) else False
          | _ => False
        | _ => False
      else False
    | none => False
def memL (l : Nat) : List Nat → Bool
  | [] => false
  | x :: r => Nat.beq x l || memL l r
/-- The labels, known at the beginning, that the head's stores write. -/
def wrOf (E : Env) (tl : List AV) : List Oper → List Nat
  | [] => []
  | o :: r => match o.op with
    | .store _ x _ => match evO tl x with
      | some (.ptr l _) => l :: wrOf E tl r
      | _ => wrOf E tl r
    | _ => match opA E.P E.rows E.eqs [] (evO tl) o.op with
      | some (.val v _) => wrOf E (putA tl o.dst v) r
      | _ => wrOf E tl r
def anyEff (gen eff : FuncId → Bool) : List Oper → Bool
  | [] => false
  | o :: r => isEff eff o || isGen gen o || anyEff gen eff r
def hasPL (ops : List Oper) : List (Mv × Nat) → Bool
  | [] => false
  | (.p i, _) :: r => (match ops[i]? with
    | some o => (match o.op with | .load _ _ => true | _ => false)
    | none => false) || hasPL ops r
  | _ :: r => hasPL ops r
/-- Cells that nothing in the head writes. -/
def statOf (E : Env) (st : ASt) (l : List Oper) (n : Nat) (ord : List (Mv × Nat)) : Option (Nat → Bool) := bif anyEff E.gen E.eff (l.take n) && !hasPL l ord then none else some fun i => Nat.blt i st.m.H.length && (match st.m.H[i]? with | some (.cells _ _) => true | _ => false) && !memL i (wrOf E st.tl (l.take n))
def drawnP (l : List Oper) (st : ASt) (K : ASt → Prop) : Prop :=
  match planOf E.gen E.eff l with
  | some p => headP E call st.m.H.length (statOf E st l p.n p.ord) l p.ord st (fun st => listP E call l (l.drop p.n) st K)
  | none => match planF E.gen E.eff l with
    | some (p, po, fi, k) => match l[fi]? with
      | some fo => headP E call st.m.H.length (statOf E st l p.n (p.ord ++ po)) l (p.ord.take k) st (fun st1 => match lateA E st1.tl fo with
        | some (cs, t, v) => headP E call st.m.H.length (statOf E st l p.n (p.ord ++ po)) l (p.ord.drop k) st1 (fun st2 => headP E call st.m.H.length (statOf E st l p.n (p.ord ++ po)) l po ⟨putA st2.tl fo.dst (lateV st2.m.H.length v), ⟨st2.m.H ++ [.cells cs t], st2.m.ds, st2.m.wr⟩⟩ (fun st3 => listP E call l (l.drop p.n) st3 K))
        | none => False)
      | none => False
    | none => False
end
inductive Task where
  | code (c : Code)
  | inS (c0 c : Code)
  | inL (c : Code)
def resA (P : Program) (R : Rws) (H : Mem) (tl : List AV) : List ResultVar → Option (List AV)
  | [] => some []
  | .tmp t :: r => match tl[t]?, resA P R H tl r with
    | some v, some vs => some (v :: vs)
    | _, _ => none
  | .cell a t :: r => match (tl[a]?).bind (loadA P R H t), resA P R H tl r with
    | some v, some vs => some (v :: vs)
    | _, _ => none
def oneA : List AV → AV
  | [v] => v
  | vs => .tuple vs
def callWith (E : Env) (ev : Task → ASt → (AExit → ASt → Prop) → Prop) : CallF := fun f args m K =>
  match E.P.funcs[f]? with
  | some fn => match fn.body with
    | some c => bif fn.name == "runtime.NumGoroutine" then False else
      ev (.code c) ⟨args ++ List.replicate (fn.ntmps - args.length) undefA, m⟩ (fun e st => match e with
        | .normal | .ret => match resA E.P E.rows st.m.H st.tl fn.results.toList with
          | some vs => K (oneA vs) st.m
          | none => False
        | _ => False)
    | none => False
  | none => False
mutual
/-- A value, reckoned as far as its shape goes. -/
def frcV : AV → (AV → Prop) → Prop
  | .int k true n, K => forceI n fun n => K (.int k true n)
  | .int k false n, K => K (.int k false n)
  | .agg cs, K => frcL cs fun cs => K (.agg cs)
  | .ptr l o, K => forceN l fun l => forceN o fun o => K (.ptr l o)
  | .slice l o n c, K => forceN l fun l => forceN o fun o => K (.slice l o n c)
  | .bool l b, K => K (.bool l b)
  | .bv k a, K => K (.bv k a)
  | .func f c, K => K (.func f c)
  | .tuple v, K => K (.tuple v)
  | .raw v, K => K (.raw v)
  | .rsl a b c, K => K (.rsl a b c)
  | .rptr a b c, K => K (.rptr a b c)
  | .xsl a b c, K => forceN b fun b => forceN c fun c => K (.xsl a b c)
  | .gsl a b c d, K => K (.gsl a b c d)
  | .gptr a b c, K => K (.gptr a b c)
  | .mp l, K => K (.mp l)
  | .meth a b c, K => K (.meth a b c)
  | .junk, K => K .junk
  | .str s, K => K (.str s)
def frcL : List AV → (List AV → Prop) → Prop
  | [], K => K []
  | c :: r, K => frcV c fun c => frcL r fun r => K (c :: r)
end
def frcM : Mem → (Mem → Prop) → Prop
  | [], K => K []
  | .cells cs t :: r, K => frcL cs fun cs => frcM r fun r => K (.cells cs t :: r)
  | .gone :: r, K => frcM r fun r => K (.gone :: r)
  | .row a b c d e :: r, K => frcM r fun r => K (.row a b c d e :: r)
  | .map m :: r, K => frcM r fun r => K (.map m :: r)
mutual
theorem frcV_eq : ∀ (v : AV) (K : AV → Prop), frcV v K = K v
  | .int k true n, K => by rw [frcV, forceI_eq]
  | .int k false n, K => by rw [frcV]
  | .agg cs, K => by rw [frcV, frcL_eq cs]
  | .ptr l o, K => by rw [frcV, forceN_eq, forceN_eq]
  | .slice l o n c, K => by rw [frcV, forceN_eq, forceN_eq]
  | .bool _ _, K => by rw [frcV]
  | .bv _ _, K => by rw [frcV]
  | .func _ _, K => by rw [frcV]
  | .tuple _, K => by rw [frcV]
  | .raw _, K => by rw [frcV]
  | .rsl _ _ _, K => by rw [frcV]
  | .rptr _ _ _, K => by rw [frcV]
  | .xsl _ _ _, K => by rw [frcV, forceN_eq, forceN_eq]
  | .gsl _ _ _ _, K => by rw [frcV]
  | .gptr _ _ _, K => by rw [frcV]
  | .mp _, K => by rw [frcV]
  | .meth _ _ _, K => by rw [frcV]
  | .junk, K => by rw [frcV]
  | .str _, K => by rw [frcV]
theorem frcL_eq : ∀ (l : List AV) (K : List AV → Prop), frcL l K = K l
  | [], K => by rw [frcL]
  | c :: r, K => by
    rw [frcL, frcV_eq c, frcL_eq r]
end
theorem frcM_eq : ∀ (m : Mem) (K : Mem → Prop), frcM m K = K m
  | [], K => by rw [frcM]
  | .cells cs t :: r, K => by rw [frcM, frcL_eq, frcM_eq r]
  | .gone :: r, K => by rw [frcM, frcM_eq r]
  | .row _ _ _ _ _ :: r, K => by rw [frcM, frcM_eq r]
  | .map _ :: r, K => by rw [frcM, frcM_eq r]
/-- Behind a round: all is reckoned, where this is wanted (gen at 1000003). -/
def frc (E : Env) (st : ASt) (K : ASt → Prop) : Prop := bif E.gen 1000003 then frcL st.tl fun tl => frcM st.m.H fun H => K ⟨tl, ⟨H, st.m.ds, st.m.wr⟩⟩ else K st
theorem frc_eq (E : Env) (st : ASt) (K : ASt → Prop) : frc E st K = K st := by
  unfold frc
  cases E.gen 1000003
  · rfl
  · simp only [cond_true]; rw [frcL_eq, frcM_eq]
def evT (E : Env) : Nat → Task → ASt → (AExit → ASt → Prop) → Prop
  | 0, _, _, _ => False
  | n + 1, .inS c0 c, st, K => evT E n (.code c) st (fun e st => match e with
    | .goto l => match findLabel c0 l with
      | some rest => frc E st fun st => evT E n (.inS c0 rest) st K
      | none => False
    | e => K e st)
  | n + 1, .inL c, st, K => evT E n (.code c) st (fun e st => match e with
    | .normal => frc E st fun st => evT E n (.inL c) st K
    | e => K e st)
  | n + 1, .code c, st, K => match c with
    | .skip => K .normal st
    | .region _ ops false => listP E (callWith E (evT E n)) ops.toList ops.toList st (K .normal)
    | .region _ ops true => drawnP E (callWith E (evT E n)) ops.toList st (K .normal)
    | .seq a b => evT E n (.code a) st (fun e st => match e with
      | .normal => evT E n (.code b) st K
      | e => K e st)
    | .cond c a b => match evO st.tl c with
      | some (.bool true z) => bif z then evT E n (.code a) st K else evT E n (.code b) st K
      | some (.bool false z) => match st.m.ds with
        | d :: ds => z = d ∧ (bif d then evT E n (.code a) ⟨refineA st.tl c d, ⟨st.m.H, ds, st.m.wr⟩⟩ K else evT E n (.code b) ⟨refineA st.tl c d, ⟨st.m.H, ds, st.m.wr⟩⟩ K)
        | [] => False
      | _ => False
    | .block id c => evT E n (.code c) st (fun e st => match e with
      | .exit j => bif Nat.beq j id then K .normal st else K (.exit j) st
      | e => K e st)
    | .loop c => evT E n (.code c) st (fun e st => match e with
      | .normal => frc E st fun st => evT E n (.inL c) st K
      | e => K e st)
    | .exit id => K (.exit id) st
    | .goto l => K (.goto l) st
    | .label _ => K .normal st
    | .ret => K .ret st
    | .scope c => evT E n (.inS c c) st K
    | _ => False
/-- A call of a function, from outside. -/
def evCall (E : Env) (n : Nat) : CallF := callWith E (evT E n)
end

section
variable {D : List Deferred} {R : Rws}

def RelSt (R : Rws) (D : List Deferred) (st : ASt) (a : Act) (Hr : List RBlk) : Prop := ∃ vs : List Value, a = ⟨vs.toArray, D⟩ ∧ RelL R (nums Hr) st.tl vs ∧ RelB R (nums Hr) st.m.H Hr ∧ Apart st.m.H Hr
structure Stp (wr : Nat → Bool) (Hr : List RBlk) (w : World) (Hr' : List RBlk) (w' : World) : Prop where
  os : w'.os = w.os
  tape : w'.tape = w.tape
  output : w'.output = w.output
  size : w.heap.size ≤ w'.heap.size
  ext : ∃ σ, nums Hr' = nums Hr ++ σ ∧ ∀ q ∈ σ, q.ph = false → w.heap.size ≤ q.b ∨ ∃ (l : Nat) (p : Num), (nums Hr)[l]? = some p ∧ p.ph = false ∧ p.b = q.b ∧ wr l = true
  block : ∀ k, k < w.heap.size → (∀ (l : Nat) (q : Num), (nums Hr)[l]? = some q → q.ph = false → q.b = k → wr l = false) → w'.heap[k]? = w.heap[k]?
section
variable {wr : Nat → Bool}
theorem Stp.of_below {Hr : List RBlk} {w w' : World} (h : Below w.heap.size w w') : Stp wr Hr w Hr w' :=
  ⟨h.os, h.tape, h.output, h.size, ⟨[], by simp, by simp⟩, fun k hk _ => h.block k hk⟩
theorem Stp.refl (wr : Nat → Bool) (Hr : List RBlk) (w : World) : Stp wr Hr w Hr w := .of_below (Below.refl _ _)
/-- One behind the other; what the first has made the second may write. -/
theorem Stp.trans' {A B C : List RBlk} {u v w : World} (h : Stp wr A u B v) (k : Stp (fun l => wr l || Nat.ble A.length l) B v C w) : Stp wr A u C w := by
  obtain ⟨σ, e1, n1⟩ := h.ext
  obtain ⟨τ, e2, n2⟩ := k.ext
  have hlen : (nums A).length = A.length := by simp [nums]
  refine ⟨k.os.trans h.os, k.tape.trans h.tape, k.output.trans h.output, Nat.le_trans h.size k.size, ⟨σ ++ τ, by rw [e2, e1, List.append_assoc], fun q hq hqp => ?_⟩, fun i hi hn => ?_⟩
  · rcases List.mem_append.1 hq with hq | hq
    · exact n1 q hq hqp
    · rcases n2 q hq hqp with h1 | ⟨l, p, hp, hpp, hpb, hw⟩
      · exact .inl (Nat.le_trans h.size h1)
      · rw [e1] at hp
        rcases Nat.lt_or_ge l (nums A).length with hlt | hge
        · rw [List.getElem?_append_left hlt] at hp
          refine .inr ⟨l, p, hp, hpp, hpb, ?_⟩
          have : Nat.ble A.length l = false := by rw [Bool.eq_false_iff]; intro hb; have := Nat.le_of_ble_eq_true hb; omega
          simpa [this] using hw
        · rw [List.getElem?_append_right hge] at hp
          rcases n1 p (List.mem_of_getElem? hp) hpp with h1 | ⟨l1, p1, x1, x0, x2, x3⟩
          · exact .inl (by rw [← hpb]; exact h1)
          · exact .inr ⟨l1, p1, x1, x0, x2.trans hpb, x3⟩
  · rw [k.block i (Nat.lt_of_lt_of_le hi h.size), h.block i hi hn]
    intro l q hl hqp hqi
    rw [e1] at hl
    rcases Nat.lt_or_ge l (nums A).length with hlt | hge
    · rw [List.getElem?_append_left hlt] at hl
      have h1 := hn l q hl hqp hqi
      have : Nat.ble A.length l = false := by rw [Bool.eq_false_iff]; intro hb; have := Nat.le_of_ble_eq_true hb; omega
      simp [h1, this]
    · rw [List.getElem?_append_right hge] at hl
      rcases n1 q (List.mem_of_getElem? hl) hqp with h1 | ⟨l1, p1, x1, x0, x2, x3⟩
      · omega
      · have := hn l1 p1 x1 x0 (x2.trans hqi)
        rw [this] at x3; cases x3
theorem Stp.mono {wr' : Nat → Bool} {A B : List RBlk} {u v : World} (h : Stp wr A u B v) (hw : ∀ l, wr l = true → wr' l = true) : Stp wr' A u B v := by
  obtain ⟨σ, e, n⟩ := h.ext
  refine ⟨h.os, h.tape, h.output, h.size, ⟨σ, e, fun q hq hqp => (n q hq hqp).imp id fun ⟨l, p, a, a0, b, c⟩ => ⟨l, p, a, a0, b, hw l c⟩⟩, fun k hk hn => h.block k hk fun l q hl hqp hq => ?_⟩
  have := hn l q hl hqp hq
  cases hwl : wr l
  · rfl
  · rw [hw l hwl] at this; cases this
theorem Stp.trans {A B C : List RBlk} {u v w : World} (h : Stp wr A u B v) (k : Stp wr B v C w) : Stp wr A u C w := h.trans' (k.mono fun l hl => by simp [hl])
/-- The rows that are only read stay. -/
theorem Stp.rd {A B : List RBlk} {u v : World} (h : Stp wr A u B v) (hr : Rd R (bs (nums A)) u) : Rd R (bs (nums B)) v := fun j r hj b off ha h0 => by
  obtain ⟨h1, h2, h3⟩ := hr j r hj b off ha h0
  obtain ⟨σ, e1, n1⟩ := h.ext
  have hb := h.block b h2 (fun l q hl hqp hq => absurd (mem_bs.2 ⟨q, List.mem_of_getElem? hl, hqp, hq⟩) h1)
  refine ⟨fun hm => ?_, Nat.lt_of_lt_of_le h2 h.size, fun i hi q u' hu => ?_⟩
  · rw [e1, bs_append] at hm
    rcases List.mem_append.1 hm with hm | hm
    · exact h1 hm
    · obtain ⟨q, hq, hqp, hqb⟩ := mem_bs.1 hm
      rcases n1 q hq hqp with h4 | ⟨l, p, x1, x0, x2, _⟩
      · omega
      · exact h1 (mem_bs.2 ⟨p, List.mem_of_getElem? x1, x0, x2.trans hqb⟩)
  · exact (World.cell?_of_block (a := ⟨b, off + i * r.s + q, none⟩) hb).trans (h3 i hi q u' hu)
end
theorem own_lt {H : Mem} {Hr : List RBlk} {w : World} (h : OwnM H Hr w) (hl : Hr.length = H.length) {l : Nat} {p : RBlk} (hp : Hr[l]? = some p) (hph : p.num.ph = false) : p.b < w.heap.size := by
  have hlt : l < H.length := by rw [← hl]; exact (List.getElem?_eq_some_iff.1 hp).1
  exact (h l _ p (List.getElem?_eq_getElem hlt) hp hph).1
/-- Something new. -/
theorem own_new {H : Mem} {Hr : List RBlk} {w w' : World} (h : OwnM H Hr w) (hl : Hr.length = H.length) (hb : Below w.heap.size w w') {it : AIt} {p : RBlk} (hp : p.num.ph = false → w'.heap[p.b]? = some p.o) : OwnM (H ++ [it]) (Hr ++ [p]) w' := fun l jt q h1 h2 hq => by
  rcases Nat.lt_trichotomy l H.length with hlt | heq | hgt
  · rw [List.getElem?_append_left hlt] at h1
    rw [List.getElem?_append_left (by rw [hl]; exact hlt)] at h2
    exact h.grow hb l jt q h1 h2 hq
  · subst heq
    rw [List.getElem?_append_right (by rw [hl]; exact Nat.le_refl _), hl, Nat.sub_self] at h2
    cases h2
    exact ⟨(Array.getElem?_eq_some_iff.1 (hp hq)).1, fun _ => hp hq⟩
  · rw [List.getElem?_eq_none (by simp; omega)] at h1
    cases h1
theorem apart_new {H : Mem} {Hr : List RBlk} {w : World} (ha : Apart H Hr) (h : OwnM H Hr w) (hl : Hr.length = H.length) {it : AIt} {p : RBlk} (hp : p.num.ph = false → w.heap.size ≤ p.b) : Apart (H ++ [it]) (Hr ++ [p]) := by
  have key : ∀ (l : Nat) jt q, (H ++ [it])[l]? = some jt → (Hr ++ [p])[l]? = some q → q.num.ph = false → (l < H.length ∧ H[l]? = some jt ∧ Hr[l]? = some q ∧ q.b < w.heap.size) ∨ (l = H.length ∧ q = p) := fun l jt q h1 h2 hq => by
    rcases Nat.lt_trichotomy l H.length with hlt | heq | hgt
    · rw [List.getElem?_append_left hlt] at h1
      rw [List.getElem?_append_left (by rw [hl]; exact hlt)] at h2
      exact .inl ⟨hlt, h1, h2, own_lt h hl h2 hq⟩
    · subst heq
      rw [List.getElem?_append_right (by rw [hl]; exact Nat.le_refl _), hl, Nat.sub_self] at h2
      cases h2
      exact .inr ⟨rfl, rfl⟩
    · rw [List.getElem?_eq_none (by simp; omega)] at h1
      cases h1
  intro l m it1 it2 p1 p2 hne h1 h2 l1 l2 q1 q2 z1 z2 hb
  rcases key l it1 p1 h1 q1 z1 with ⟨a1, a2, a3, a4⟩ | ⟨a1, rfl⟩ <;> rcases key m it2 p2 h2 q2 z2 with ⟨b1, b2, b3, b4⟩ | ⟨b1, rfl⟩
  · exact ha l m it1 it2 p1 p2 hne a2 b2 l1 l2 a3 b3 z1 z2 hb
  · have := hp z2; omega
  · have := hp z1; omega
  · omega
/-- What is left when what is written through l is written. -/
theorem dropR_get {H : Mem} {l k : Nat} {it : AIt} (h : (dropR l H)[k]? = some it) (hlv : it.live = true) : H[k]? = some it ∧ (k ≠ l → it.owner k ≠ l) := by
  unfold dropR at h
  obtain ⟨it0, h1, rfl⟩ := dropI_get h
  cases hb : (!Nat.beq k l && Nat.beq (it0.owner k) l) <;> simp only [hb, cond_true, cond_false] at hlv ⊢
  · refine ⟨h1, fun hk he => ?_⟩
    have e1 : Nat.beq k l = false := by
      rw [Bool.eq_false_iff]; intro e; exact hk (Nat.eq_of_beq_eq_true e)
    have e2 : Nat.beq (it0.owner k) l = true := by rw [he]; exact Nat.beq_refl l
    rw [e1, e2] at hb; cases hb
  · cases hlv
theorem own_write {H : Mem} {Hr : List RBlk} {w w' : World} {l : Nat} {it it' : AIt} {p p' : RBlk} (h : OwnM H Hr w) (ha : Apart H Hr) (hl : Hr.length = H.length) (hi : H[l]? = some it) (hlv : it.live = true) (how : it.owner l = l) (hp : Hr[l]? = some p) (hph : p.num.ph = false) (hpb : p'.b = p.b) (hs : ∀ k, k < w.heap.size → k ≠ p.b → w'.heap[k]? = w.heap[k]?) (hz : w.heap.size ≤ w'.heap.size) (hw : w'.heap[p.b]? = some p'.o) : OwnM ((dropR l H).set l it') (Hr.set l p') w' := fun k jt q h1 h2 hq => by
  by_cases e : l = k
  · subst e
    have : l < Hr.length := (List.getElem?_eq_some_iff.1 hp).1
    rw [List.getElem?_set_self this] at h2
    cases h2
    rw [hpb]
    exact ⟨(Array.getElem?_eq_some_iff.1 hw).1, fun _ => hw⟩
  · rw [List.getElem?_set_ne e] at h1 h2
    have hlt := own_lt h hl h2 hq
    refine ⟨Nat.lt_of_lt_of_le hlt hz, fun hjl => ?_⟩
    obtain ⟨g1, g2⟩ := dropR_get h1 hjl
    have hne : q.b ≠ p.b := fun hb => g2 (Ne.symm e) ((ha k l jt it q p (Ne.symm e) g1 hi hjl hlv h2 hp hq hph hb).trans how)
    rw [hs q.b hlt hne]
    exact (h k jt q g1 h2 hq).2 hjl
theorem apart_write {H : Mem} {Hr : List RBlk} {l : Nat} {it it' : AIt} {p p' : RBlk} (ha : Apart H Hr) (hi : H[l]? = some it) (hlv : it.live = true) (how : it.owner l = l) (hp : Hr[l]? = some p) (hph : p.num.ph = false) (hpb : p'.b = p.b) : Apart ((dropR l H).set l it') (Hr.set l p') ∧ (∀ (k : Nat) jt q, k ≠ l → ((dropR l H).set l it')[k]? = some jt → jt.live = true → (Hr.set l p')[k]? = some q → q.num.ph = false → q.b ≠ p.b) := by
  have far : ∀ (k : Nat) jt q, k ≠ l → ((dropR l H).set l it')[k]? = some jt → jt.live = true → (Hr.set l p')[k]? = some q → q.num.ph = false → q.b ≠ p.b := fun k jt q hk h1 hjl h2 hq hb => by
    rw [List.getElem?_set_ne (Ne.symm hk)] at h1 h2
    obtain ⟨g1, g2⟩ := dropR_get h1 hjl
    exact g2 hk ((ha k l jt it q p hk g1 hi hjl hlv h2 hp hq hph hb).trans how)
  refine ⟨fun k m jt kt q r hne h1 h2 hj hk q1 q2 z1 z2 hb => ?_, far⟩
  have hlt : l < Hr.length := (List.getElem?_eq_some_iff.1 hp).1
  by_cases e1 : k = l
  · subst e1
    rw [List.getElem?_set_self hlt] at q1
    cases q1
    exact absurd (hb.symm.trans hpb) (far m kt r (Ne.symm hne) h2 hk q2 z2)
  · by_cases e2 : m = l
    · subst e2
      rw [List.getElem?_set_self hlt] at q2
      cases q2
      exact absurd (hb.trans hpb) (far k jt q e1 h1 hj q1 z1)
    · rw [List.getElem?_set_ne (Ne.symm e1)] at h1 q1
      rw [List.getElem?_set_ne (Ne.symm e2)] at h2 q2
      exact ha k m jt kt q r hne (dropR_get h1 hj).1 (dropR_get h2 hk).1 hj hk q1 q2 z1 z2 hb
/-- The item is said in another way; its number too, if there is no block. -/
theorem own_said {H : Mem} {Hr : List RBlk} {w : World} {l : Nat} {it it' : AIt} {p : RBlk} (h : OwnM H Hr w) (hi : H[l]? = some it) (hlv : it.live = true) (hp : Hr[l]? = some p) : OwnM ((dropR l H).set l it') Hr w := fun k jt q h1 h2 hq => by
  by_cases e : l = k
  · subst e
    obtain ⟨a, b⟩ := h l it q hi h2 hq
    exact ⟨a, fun _ => b hlv⟩
  · rw [List.getElem?_set_ne e] at h1
    unfold dropR at h1
    obtain ⟨it0, h3, h4⟩ := dropI_get h1
    obtain ⟨a, b⟩ := h k it0 q h3 h2 hq
    refine ⟨a, fun hjl => b ?_⟩
    subst h4
    cases hc : (!Nat.beq k l && Nat.beq (it0.owner k) l) <;> simp only [hc, cond_true, cond_false] at hjl
    · exact hjl
    · cases hjl
end

section
variable {D : List Deferred} {R : Rws}
theorem RelL.setSame {ρ : Nums} {cs : List AV} {vs : List Value} (h : RelL R ρ cs vs) {i : Nat} {c : AV} {v : Value} (hv : vs[i]? = some v) (hc : Rel R ρ c v) : RelL R ρ (cs.set i c) vs := by
  induction cs generalizing vs i with
  | nil => cases h; exact .nil
  | cons d cs ih =>
    cases h with | cons h hs =>
    cases i with
    | zero => simp at hv; subst hv; exact .cons hc hs
    | succ i => exact .cons h (ih hs (by simpa using hv))
theorem Rel.of_plain {ρ : Nums} {v : AV} {V : Value} (h : v.plain? = some V) : Rel R ρ v V := by
  cases v <;> simp only [AV.plain?] at h
  case agg cs =>
    rw [Option.map_eq_some_iff] at h
    obtain ⟨l, h1, h2⟩ := h
    subst h2; exact .agg (RelL.of_vals h1)
  all_goals exact Rel.of_val h
theorem RelL.of_plains {ρ : Nums} : ∀ {v : List AV} {V : List Value}, AV.plains? v = some V → RelL R ρ v V
  | [], _, h => by simp [AV.plains?] at h; subst h; exact .nil
  | c :: r, V, h => by
    unfold AV.plains? at h
    split at h
    · rename_i e1 e2; cases h; exact .cons (Rel.of_plain e1) (RelL.of_plains e2)
    · cases h
theorem Rel.of_told {ρ : Nums} {v : AV} {V : Value} (h : v.told? = some V) : Rel R ρ v V := by
  cases v <;> simp only [AV.told?] at h
  case tuple cs =>
    rw [Option.map_eq_some_iff] at h
    obtain ⟨l, h1, h2⟩ := h
    subst h2; exact .tuple (RelL.of_plains h1)
  all_goals exact Rel.of_plain h
theorem allT_spec : ∀ {cs : List Bool} {p : Prop}, allT cs p → (∀ c ∈ cs, c = true) ∧ p
  | [], p, h => ⟨by simp, h⟩
  | c :: r, p, h => by
    obtain ⟨h1, h2⟩ := h
    obtain ⟨h3, h4⟩ := allT_spec h2
    exact ⟨fun x hx => by rcases List.mem_cons.1 hx with rfl | hx; exact h1; exact h3 x hx, h4⟩

/-- A row of contracts: what a function answers; it changes nothing. -/
def Good (P : Program) (R : Rws) (f : FuncId) (F : List AV → Mem → Option VC) : Prop := Enters P f ∧ ∀ args H v cs, F args H = some (v, cs) → (∀ c ∈ cs, c = true) → ∃ V, v.told? = some V ∧ ∀ (Hr : List RBlk) (Args : List Value), RelL R (nums Hr) args Args → RelB R (nums Hr) H Hr → Apart H Hr → ∀ w, OwnK R H Hr w → Calls P f Args.toArray w fun e w' => e = .returned V ∧ Below w.heap.size w w'
/-- What is asked of what is known of the program. -/
structure EnvOK (E : Env) : Prop where
  eqs : ∀ t ks, E.eqs t = some ks → EqT E.P t ks
  rows : RwOK E.rows
  ctr : ∀ f F, E.ctr f = some F → Good E.P E.rows f F
  ctm : ∀ f F, E.ctm f = some F → Enters E.P f ∧ ∀ args H wr v H' cs, F args H wr = some (v, H', cs) → (∀ c ∈ cs, c = true) → ∀ Hr w Args, RelL E.rows (nums Hr) args Args → RelB E.rows (nums Hr) H Hr → Apart H Hr → OwnK E.rows H Hr w →
    Calls E.P f Args.toArray w fun e w' => ∃ V Hr', e = .returned V ∧ Rel E.rows (nums Hr') v V ∧ RelB E.rows (nums Hr') H' Hr' ∧ Apart H' Hr' ∧ OwnK E.rows H' Hr' w' ∧ Stp wr Hr w Hr' w'
  mixed : E.P.follows .mixedOrders = true
/-- What is asked of the way calls are carried out. -/
def CallOK (E : Env) (call : CallF) : Prop := ∀ f args m K, call f args m K → ∃ v m', K v m' ∧ m'.wr = m.wr ∧ Enters E.P f ∧ ∀ Hr w Args, RelL E.rows (nums Hr) args Args → RelB E.rows (nums Hr) m.H Hr → Apart m.H Hr → OwnK E.rows m.H Hr w →
  Calls E.P f Args.toArray w fun e w' => ∃ V Hr', e = .returned V ∧ Rel E.rows (nums Hr') v V ∧ RelB E.rows (nums Hr') m'.H Hr' ∧ Apart m'.H Hr' ∧ OwnK E.rows m'.H Hr' w' ∧ Stp m.wr Hr w Hr' w'

theorem callG_ok {E : Env} (hE : EnvOK E) {call : CallF} (hC : CallOK E call) : CallOK E (callG E call) := fun f args m K h => by
  unfold callG at h
  split at h
  · rename_i F hF
    split at h
    · rename_i v H' cs hv
      obtain ⟨hcs, hk⟩ := allT_spec h
      obtain ⟨he, hc⟩ := hE.ctm f F hF
      exact ⟨v, ⟨H', m.ds, m.wr⟩, hk, rfl, he, fun Hr w Args ha hB hA hO => hc args m.H m.wr v H' cs hv hcs Hr w Args ha hB hA hO⟩
    · exact h.elim
  · exact hC f args m K h

section
variable {E : Env} (hE : EnvOK E) {call : CallF} (hC : CallOK E call)
include hE hC
/-- A call: pure, or not. -/
theorem callP_sound {p : Bool} {f : FuncId} {args : List AV} {m : AM} {K : AV → AM → Prop} (h : callP E call p f args m K) :
    ∃ v m', K v m' ∧ m'.wr = m.wr ∧ Enters E.P f ∧ ((m'.H = m.H ∧ ∃ V, v.told? = some V ∧ ∀ Hr w Args, RelL E.rows (nums Hr) args Args → RelB E.rows (nums Hr) m.H Hr → Apart m.H Hr → OwnK E.rows m.H Hr w → Calls E.P f Args.toArray w fun e w' => e = .returned V ∧ Below w.heap.size w w') ∨
      (p = false ∧ ∀ Hr w Args, RelL E.rows (nums Hr) args Args → RelB E.rows (nums Hr) m.H Hr → Apart m.H Hr → OwnK E.rows m.H Hr w →
        Calls E.P f Args.toArray w fun e w' => ∃ V Hr', e = .returned V ∧ Rel E.rows (nums Hr') v V ∧ RelB E.rows (nums Hr') m'.H Hr' ∧ Apart m'.H Hr' ∧ OwnK E.rows m'.H Hr' w' ∧ Stp m.wr Hr w Hr' w')) := by
  unfold callP at h
  split at h
  · rename_i F hF
    obtain ⟨hen, hctr⟩ := hE.ctr f F hF
    split at h
    · rename_i v cs hv
      obtain ⟨hcs, hk⟩ := allT_spec h
      obtain ⟨V, h1, h2⟩ := hctr args m.H v cs hv hcs
      exact ⟨v, m, hk, rfl, hen, .inl ⟨rfl, V, h1, fun Hr w Args ha hB hn hO => h2 Hr Args ha hB hn w hO⟩⟩
    · exact h.elim
  · split at h
    · rename_i F hF
      obtain ⟨hen, hctm⟩ := hE.ctm f F hF
      cases p <;> simp only [cond_true, cond_false] at h
      split at h
      · rename_i v H' cs hv
        obtain ⟨hcs, hk⟩ := allT_spec h
        exact ⟨v, _, hk, rfl, hen, .inr ⟨rfl, fun Hr w Args ha hB hn hO => hctm args m.H m.wr v H' cs hv hcs Hr w Args ha hB hn hO⟩⟩
      · exact h.elim
    · cases hp : (p || E.pure f) <;> simp only [hp, cond_true, cond_false] at h
      · obtain ⟨v, m', h1, h2, h3, h4⟩ := hC f args m K h
        exact ⟨v, m', h1, h2, h3, .inr ⟨(Bool.or_eq_false_iff.1 hp).1, h4⟩⟩
      · obtain ⟨v, m', h1, h2, h3, h4⟩ := hC f args _ _ h
        split at h1
        · rename_i V hV
          refine ⟨v, _, h1, rfl, h3, .inl ⟨rfl, V, hV, fun Hr w Args ha hB hn hO => (h4 Hr w Args ha hB hn hO).mono ?_⟩⟩
          rintro e w' ⟨V', Hr', rfl, hr, _, _, _, hS⟩
          refine ⟨by rw [hr.told hV], hS.os, hS.tape, hS.output, hS.size, fun k hk => hS.block k hk ?_⟩
          intro l q hl _ _
          have hl1 := (List.getElem?_eq_some_iff.1 hl).1
          have hl2 := hB.len
          simp only [nums, List.length_map] at hl1
          show Nat.ble m.H.length l = false
          rw [Bool.eq_false_iff]
          intro hb
          have := Nat.le_of_ble_eq_true hb
          omega
        · exact h1.elim
end

theorem evO_sound {tl : List AV} {vs : List Value} {ρ : Nums} (h : RelL R ρ tl vs) : ∀ x v, evO tl x = some v → Rel R ρ v ((⟨vs.toArray, D⟩ : Act).eval x) := by
  intro x v hx
  cases x <;> simp only [evO] at hx
  case tmp t =>
    obtain ⟨V, h1, h2⟩ := h.get hx
    simp [Act.eval, h1, h2]
  case const c => cases hx; exact Rel.ofValue _
  case func f => cases hx; exact .func .nil
  case global g => cases hx
theorem putA_rel {ρ : Nums} {tl : List AV} {vs : List Value} (h : RelL R ρ tl vs) (d : Option Tmp) {v : AV} {V : Value} (hv : Rel R ρ v V) :
    ∃ vs', (⟨vs.toArray, D⟩ : Act).put d V = ⟨vs'.toArray, D⟩ ∧ RelL R ρ (putA tl d v) vs' := by
  cases d with
  | none => exact ⟨vs, rfl, h⟩
  | some d => exact ⟨vs.set d V, by simp [Act.put], h.set hv⟩

/-- Something new is made: this object. -/
def atO (P : Program) (o : Oper) (a : Act) (w : World) (mk : Nat → Value) (ob : Obj) : Prop := atR P o a w fun v w' => v = mk w.heap.size ∧ w' = w.alloc ob
/-- What an operation has done: it has yielded a value; made a block; or else changed what lies there. -/
def Did (P : Program) (R : Rws) (p : Bool) (o : Oper) (st st' : ASt) : Prop :=
  (∃ v ds, st' = ⟨putA st.tl o.dst v, ⟨st.m.H, ds, st.m.wr⟩⟩ ∧ ∀ {D : List Deferred} a Hr, RelSt R D st a Hr → ∃ V, Rel R (nums Hr) v V ∧ ∀ w, OwnK R st.m.H Hr w → at1 P o a w V) ∨
  (isMake o = true ∧ ∃ (v : AV) (it : AIt) (mk : Nat → Value), st' = ⟨putA st.tl o.dst v, ⟨st.m.H ++ [it], st.m.ds, st.m.wr⟩⟩ ∧ ∀ {D : List Deferred} a Hr, RelSt R D st a Hr → ∃ ob : Obj, (∀ b, RelI R (nums Hr) it ⟨b, 0, ob⟩) ∧ (∀ q, Rel R (nums Hr ++ [q]) v (mk q.b)) ∧ ∀ w, OwnK R st.m.H Hr w → atO P o a w mk ob) ∨
  (p = false ∧ ∃ v m', st' = ⟨putA st.tl o.dst v, m'⟩ ∧ m'.wr = st.m.wr ∧ ∀ {D : List Deferred} a Hr w, RelSt R D st a Hr → OwnK R st.m.H Hr w → atR P o a w fun u w' => ∃ Hr', Rel R (nums Hr') v u ∧ RelB R (nums Hr') m'.H Hr' ∧ Apart m'.H Hr' ∧ OwnK R m'.H Hr' w' ∧ Stp st.m.wr Hr w Hr' w')
/-- A write through label l. -/
theorem stp_write {wr : Nat → Bool} {Hr Hr' : List RBlk} {w w' : World} {l : Nat} {p : RBlk} (hp : Hr[l]? = some p) (hph : p.num.ph = false) (hw : wr l = true) (hg : w.grownBy w' (some p.b)) (hN : nums Hr' = nums Hr ++ (nums Hr').drop Hr.length) (hnew : ∀ q ∈ (nums Hr').drop Hr.length, q.ph = false → w.heap.size ≤ q.b ∨ q.b = p.b) : Stp wr Hr w Hr' w' := by
  refine ⟨hg.os, hg.tape, hg.output, hg.size, ⟨_, hN, fun q hq hqp => (hnew q hq hqp).imp id fun h => ⟨l, p.num, nums_get hp, hph, h.symm, hw⟩⟩, fun k hk hn => hg.block k hk fun e => ?_⟩
  have := hn l p.num (nums_get hp) hph (Option.some.inj e).symm
  rw [hw] at this; cases this
theorem same_grown {b : Nat} {w w' : World} (h : Same b w w') : w.grownBy w' (some b) := ⟨h.os, h.tape, h.output, by rw [h.size]; exact Nat.le_refl _, fun k _ hk => h.block k fun e => hk (by rw [e])⟩
def makes : Res → Bool
  | .newM _ => true
  | .new _ _ => true
  | .newS _ _ _ _ => true
  | _ => false
theorem storeA_make {P : Program} {H : Mem} {t : TypeId} {x y : AV} {r : Res} (h : storeA P H t x y = some r) : makes r = false := by
  unfold storeA at h
  repeat' split at h
  all_goals first
    | (cases h; done)
    | (cases h; rfl)
theorem appendA_make {P : Program} {H : Mem} {t : TypeId} {x y : AV} {r : Res} (h : appendA P R H t x y = some r) : makes r = false := by
  unfold appendA at h
  split at h
  · split at h
    · split at h
      · rename_i i _ _ z _
        cases hb : (Nat.blt 0 i.size && Nat.beq z.cells.size i.size && Nat.ble i.bytes 1000) <;> simp only [hb, cond_true, cond_false] at h
        · cases h
        repeat' split at h
        all_goals first
          | (cases h; done)
          | (cases h; rfl)
      · cases h
    · cases h
  · cases h
theorem appendZ_make {P : Program} {H : Mem} {t t' : TypeId} {x y : AV} {r : Res} (h : appendZ P H t t' x y = some r) : makes r = false := by
  unfold appendZ at h
  split at h
  · split at h
    · split at h
      · rename_i i _ _ z _
        cases hb : (Nat.blt 0 i.size && Nat.beq z.cells.size i.size && Nat.ble i.bytes 1000 && z.cells.toList.all (fun v => v.oneCell')) <;> simp only [hb, cond_true, cond_false] at h
        · cases h
        repeat' split at h
        all_goals first
          | (cases h; done)
          | (cases h; rfl)
      · cases h
    · cases h
  · cases h
theorem copyA_make {P : Program} {H : Mem} {t : TypeId} {x y : AV} {r : Res} (h : copyA P H t x y = some r) : makes r = false := by
  unfold copyA at h
  split at h
  · split at h
    · rw [Bool.cond_eq_ite] at h
      split at h
      · cases h; rfl
      · cases h
    · cases h
  · cases h
theorem copyRA_make {P : Program} {R : Rws} {H : Mem} {t : TypeId} {x y : AV} {r : Res} (h : copyRA P R H t x y = some r) : makes r = false := by
  unfold copyRA at h
  split at h
  · split at h
    · rw [Bool.cond_eq_ite] at h
      split at h
      · split at h
        · cases h; rfl
        · cases h
      · cases h
    · cases h
  · cases h
theorem builtinA_make {P : Program} {H : Mem} {f : Operand → Option AV} {c : Call} {r : Res} (h : builtinA P R H f c = some r) : makes r = false := by
  unfold builtinA at h
  repeat' split at h
  all_goals first
    | (cases h; done)
    | (rw [Option.map_eq_some_iff] at h; obtain ⟨v, _, rfl⟩ := h; rfl)
    | (exact appendA_make h)
    | (exact appendZ_make h)
    | (exact copyA_make h)
    | (exact copyRA_make h)
    | (cases h; exact copyA_make ‹_›)
    | (cases h; rfl)
theorem updateA_make {P : Program} {eqs : TypeId → Option (List IntKind)} {H : Mem} {t : TypeId} {x k v : AV} {r : Res} (h : updateA P eqs H t x k v = some r) : makes r = false := by
  unfold updateA at h
  split at h
  · split at h
    · rename_i m hu hl
      split at h
      · rename_i ks gg cs zv vc hT hvc
        cases hb : (eqKs ks m.ks && gg == m.g && eqCs cs m.cs && isAggA v == m.g && fitL m.cs vc) <;> simp only [hb, cond_true, cond_false] at h
        · cases h
        split at h
        · cases h; rfl
        · cases h
      · cases h
    · cases h
  · cases h
theorem rslSub_make {P : Program} {R : Rws} {f : Operand → Option AV} {t : TypeId} {j n c : Nat} {lo hi : Option Operand} {r : Res} (h : rslSub P R f t j n c lo hi = some r) : makes r = false := by
  unfold rslSub at h
  repeat' split at h
  all_goals (cases h; try rfl)
theorem xslA_make {P : Program} {R : Rws} {f : Operand → Option AV} {t : TypeId} {j off n : Nat} {lo hi mx : Option Operand} {r : Res} (h : xslA P R f t j off n lo hi mx = some r) : makes r = false := by
  unfold xslA at h
  repeat' split at h
  all_goals (cases h; try rfl)
theorem opA_make {P : Program} {R : Rws} {eqs : TypeId → Option (List IntKind)} {H : Mem} {f : Operand → Option AV} {o : Oper} {r : Res} (h : opA P R eqs H f o.op = some r) (hm : makes r = true) : isMake o = true := by
  obtain ⟨dst, op, ty, pos, aft, gd⟩ := o
  cases op <;> simp only [opA] at h
  all_goals first
    | rfl
    | (cases h; done)
    | (rw [Option.map_eq_some_iff] at h; obtain ⟨v, _, rfl⟩ := h; cases hm; done)
    | (rw [builtinA_make h] at hm; cases hm; done)
    | (exfalso; repeat' split at h) <;> first | (cases h; done) | (cases h; cases hm; done) | (rw [Option.map_eq_some_iff] at h; obtain ⟨v, _, rfl⟩ := h; cases hm; done) | (rw [storeA_make h] at hm; cases hm; done) | (rw [updateA_make h] at hm; cases hm; done) | (rw [xslA_make h] at hm; cases hm; done) | (cases h; rename_i e; rw [rslSub_make e] at hm; cases hm; done)
theorem at1_call {P : Program} {o : Oper} {a : Act} {w : World} {f : FuncId} {args : Array Value} {V : Value} (hr : (execOp a.eval o).run P w = .ok (.enter f args) w) (hc : Calls P f args w fun e w' => e = .returned V ∧ Below w.heap.size w w') : at1 P o a w V := by
  unfold at1 atR Oper.wp
  rw [hr]
  simp only [Oper.upon]
  exact hc.mono fun e w' ⟨he, hb⟩ => by subst he; exact ⟨V, rfl, rfl, hb⟩
theorem fnA_rel {R : Rws} {ρ : Nums} {v : AV} {V : Value} {f : FuncId} {fs cap : List AV} (h : fnA v = some (f, fs, cap)) (hr : Rel R ρ v V) : ∃ us caps, V = .func (.func f) (us : List Value).toArray (caps : List Value).toArray ∧ RelL R ρ fs us ∧ RelL R ρ cap caps := by
  unfold fnA at h
  split at h
  · cases h
    cases hr with | func hr => exact ⟨[], _, rfl, .nil, hr⟩
  · cases h
    cases hr with | meth h1 h2 => exact ⟨_, _, rfl, h1, h2⟩
  · cases h
theorem run_callF {P : Program} {f : FuncId} (hen : Enters P f) {g : Operand} {xs : Array Operand} {ts : Array TypeId} {a : Act} {us caps : List Value} (hg : a.eval g = .func (.func f) us.toArray caps.toArray) {dst ty pos aft gd} (w : World) :
    (execOp a.eval ⟨dst, .call ⟨.value g, xs, ts⟩, ty, pos, aft, gd⟩).run P w = .ok (.enter f (us.toArray ++ xs.map a.eval ++ caps.toArray)) w := by
  simp only [execOp, resolve, hg, Deferred.ofValue, Sem.run_bind, Sem.run_pure, Result.andThen_ok, invoke]
  simpa using hen _ w
theorem run_call {P : Program} {f : FuncId} (hen : Enters P f) {g : Operand} {xs : Array Operand} {ts : Array TypeId} {a : Act} {caps : List Value} (hg : a.eval g = .func (.func f) #[] caps.toArray) {dst ty pos aft gd} (w : World) :
    (execOp a.eval ⟨dst, .call ⟨.value g, xs, ts⟩, ty, pos, aft, gd⟩).run P w = .ok (.enter f (xs.map a.eval ++ caps.toArray)) w := by
  simp only [execOp, resolve, hg, Deferred.ofValue, Sem.run_bind, Sem.run_pure, Result.andThen_ok, invoke]
  simpa using hen _ w
end

section
variable {D : List Deferred} {R : Rws}

theorem atR_skip {P : Program} {o : Oper} {a : Act} {w w' : World} {Q : Value → World → Prop} (hr : (execOp a.eval o).run P w = .ok .skip w') (hq : Q undef w') : atR P o a w Q := by
  unfold atR Oper.wp
  rw [hr]
  exact ⟨undef, rfl, hq⟩
theorem atR_value {P : Program} {o : Oper} {a : Act} {w w' : World} {V : Value} {Q : Value → World → Prop} (hr : (execOp a.eval o).run P w = .ok (.value V) w') (hq : Q V w') : atR P o a w Q := by
  unfold atR Oper.wp
  rw [hr]
  exact ⟨V, rfl, hq⟩
theorem drop_all {Hr Hr' : List RBlk} (h : nums Hr' = nums Hr) : nums Hr' = nums Hr ++ (nums Hr').drop Hr.length ∧ (nums Hr').drop Hr.length = [] := by
  have : (nums Hr').drop Hr.length = [] := by rw [h]; simp [nums]
  exact ⟨by rw [this, List.append_nil]; exact h, this⟩
theorem drop_one {Hr Hr' : List RBlk} {q : Num} (h : nums Hr' = nums Hr ++ [q]) : nums Hr' = nums Hr ++ (nums Hr').drop Hr.length ∧ (nums Hr').drop Hr.length = [q] := by
  have hl : (nums Hr).length = Hr.length := by simp [nums]
  have : (nums Hr').drop Hr.length = [q] := by rw [h, ← hl, List.drop_left]
  exact ⟨by rw [this]; exact h, this⟩
theorem rel_gsl0 {ρ : Nums} {l n c b s z : Nat} (h : ρ[l]? = some ⟨b, s, z⟩) (hn : n ≤ c) (hz : z = c * s) (hs : 0 < s) (h0 : 0 < c) (hm : c ≤ maxLen) : Rel R ρ (.gsl .top l 0 n) (.slice (some ⟨b, 0, none⟩) n c) := by
  have hph : (⟨b, s, z⟩ : Num).ph = false := by
    have : 0 < c * s := Nat.mul_pos h0 hs
    unfold Num.ph
    rw [Bool.and_eq_false_iff]
    right
    rw [Bool.eq_false_iff]
    intro h
    have := Nat.eq_of_beq_eq_true h
    simp only at this
    omega
  have e : (⟨b, 0, none⟩ : Addr) = ⟨(⟨b, s, z⟩ : Num).b, 0 * (⟨b, s, z⟩ : Num).s, none⟩ := by simp
  exact .gsl h hn (.inr ⟨by rw [e], hph⟩) (.inr ⟨by rw [e], hph, by rw [Nat.zero_add]; exact hz.symm⟩) hm
/-- A block that is none: an empty row's. -/
def noBlk (s : Nat) : RBlk := ⟨0, s, .map #[] 0⟩
theorem noBlk_ph {s : Nat} (hs : 0 < s) : (noBlk s).num.ph = true := by
  unfold noBlk Num.ph RBlk.num cntO
  have : Nat.blt 0 s = true := by rw [Nat.blt_eq]; exact hs
  simp [this]
theorem rel_gsl_no {ρ : Nums} {l : Nat} {A : Option Addr} {q : Num} (h : ρ[l]? = some q) : Rel R ρ (.gsl .top l 0 0) (.slice A 0 0) := .gsl h (Nat.le_refl _) (.inl rfl) (.inl rfl) (Nat.zero_le _)
section
variable {E : Env} (hE : EnvOK E)
include hE
theorem resP_sound {p : Bool} {r : Res} {o : Oper} {st : ASt} {K : ASt → Prop} (hop : opA E.P E.rows E.eqs st.m.H (evO st.tl) o.op = some r) (h : resP p r o st K) : ∃ st', K st' ∧ Did E.P E.rows p o st st' := by
  have fine : ∀ {D : List Deferred} {tv : List Value} {Hr : List RBlk}, (∀ c ∈ r.cs, c = true) → RelL E.rows (nums Hr) st.tl tv → RelB E.rows (nums Hr) st.m.H Hr → Fine E.P E.rows (nums Hr) st.m.H Hr (⟨tv.toArray, D⟩ : Act).eval o r :=
    fun {D tv Hr} hc ht hB => opA_sound hE.rows hE.eqs hB (fun _ _ e => nums_get e) (evO_sound (D := D) ht) hop hc
  cases r with
  | val v cs =>
    obtain ⟨hcs, hk⟩ := allT_spec h
    refine ⟨_, hk, .inl ⟨v, st.m.ds, rfl, @fun D a Hr hR => ?_⟩⟩
    obtain ⟨tv, rfl, ht, hB, hn⟩ := hR
    obtain ⟨V, h1, h2⟩ := fine (D := D) hcs ht hB
    exact ⟨V, h1, fun w hO => at1_run (h2 w hO)⟩
  | new cs t =>
    refine ⟨_, h, .inr (.inl ⟨opA_make hop rfl, _, .cells cs t, fun b => .pointer (some ⟨b, 0, none⟩), rfl, @fun D a Hr hR => ?_⟩)⟩
    obtain ⟨tv, rfl, ht, hB, hn⟩ := hR
    obtain ⟨Cs, h1, h2⟩ := fine (D := D) (by simp [Res.cs]) ht hB
    refine ⟨_, fun b => .cells h1 rfl, fun q => .ptr ?_, fun w hO => ?_⟩
    · rw [← hB.len]; simp [nums]
    · unfold atO atR Oper.wp
      rw [h2 w hO]
      exact ⟨_, rfl, rfl, rfl⟩
  | newS cs t n c =>
    refine ⟨_, h, .inr (.inl ⟨opA_make hop rfl, _, .cells cs t, fun b => .slice (some ⟨b, 0, none⟩) n c, rfl, @fun D a Hr hR => ?_⟩)⟩
    obtain ⟨tv, rfl, ht, hB, hn⟩ := hR
    obtain ⟨Cs, h1, h2⟩ := fine (D := D) (by simp [Res.cs]) ht hB
    refine ⟨_, fun b => .cells h1 rfl, fun q => .slice ?_, fun w hO => ?_⟩
    · rw [← hB.len]; simp [nums]
    · unfold atO atR Oper.wp
      rw [h2 w hO]
      exact ⟨_, rfl, rfl, rfl⟩
  | newM m =>
    refine ⟨_, h, .inr (.inl ⟨opA_make hop rfl, _, .map m, fun b => .map (some b), rfl, @fun D a Hr hR => ?_⟩)⟩
    obtain ⟨tv, rfl, ht, hB, hn⟩ := hR
    obtain ⟨es, clock, h1, h2⟩ := fine (D := D) (by simp [Res.cs]) ht hB
    refine ⟨_, fun b => .map h1 rfl, fun q => .mp ?_, fun w hO => ?_⟩
    · rw [← hB.len]; simp [nums]
    · unfold atO atR Oper.wp
      rw [h2 w hO]
      exact ⟨_, rfl, rfl, rfl⟩
  | setM l m =>
    simp only [resP] at h
    split at h
    · rename_i m0 hl
      cases hb : (st.m.wr l && !p) <;> simp only [hb, cond_true, cond_false] at h
      rw [Bool.and_eq_true] at hb
      refine ⟨_, h, .inr (.inr ⟨by simpa using hb.2, undefA, _, rfl, rfl, @fun D a Hr w hR hO => ?_⟩)⟩
      obtain ⟨tv, rfl, ht, hB, hn⟩ := hR
      obtain ⟨b, s, es, clock, es', clock', m1, g1, g2, g3, g5⟩ := fine (D := D) (by simp [Res.cs]) ht hB
      have r1 := g5 w hO
      have hlt := own_lt hO.1 hB.len g2 (hB.mph hl g2)
      have hN : nums (Hr.set l ⟨b, s, .map es' clock'⟩) = nums Hr := nums_set g2 rfl
      have hD := drop_all hN
      have hph := hB.mph hl g2
      have hS : Stp st.m.wr Hr w (Hr.set l ⟨b, s, .map es' clock'⟩) (w.putObj b (.map es' clock')) := stp_write g2 hph hb.1 ⟨rfl, rfl, rfl, by simp [World.putObj], fun k _ hk => World.putObj_heap_other (by intro e; exact hk (by rw [e]))⟩ hD.1 (by rw [hD.2]; simp)
      refine atR_skip r1 ⟨Hr.set l ⟨b, s, .map es' clock'⟩, .raw, ?_, (apart_write (p' := ⟨b, s, .map es' clock'⟩) hn hl rfl rfl g2 hph rfl).1, ⟨own_write hO.1 hn hB.len hl rfl rfl g2 hph rfl (fun k _ hk => World.putObj_heap_other hk) (by simp [World.putObj]) (World.putObj_heap_same hlt), hS.rd hO.2⟩, hS⟩
      rw [hN]
      exact (hB.dropI _).set (.map g3 hph)
    · exact h.elim
  | set l cs v =>
    cases v with
    | some v => exact h.elim
    | none =>
      simp only [resP] at h
      split at h
      · rename_i cs0 t hl
        cases hb : (st.m.wr l && !p) <;> simp only [hb, cond_true, cond_false] at h
        rw [Bool.and_eq_true] at hb
        refine ⟨_, h, .inr (.inr ⟨by simpa using hb.2, undefA, _, rfl, rfl, @fun D a Hr w hR hO => ?_⟩)⟩
        obtain ⟨tv, rfl, ht, hB, hn⟩ := hR
        obtain ⟨b, s, Cs, Cs', ty, cs1, g1, g2, g3, g4, _, g5⟩ := fine (D := D) (by simp [Res.cs]) ht hB
        rw [hl] at g1; cases g1
        obtain ⟨w', r1, r2, r3⟩ := g5 w hO
        have hph := hB.cph hl g2
        have hnum : (⟨b, s, .cells Cs'.toArray t (0, 0)⟩ : RBlk).num = (⟨b, s, .cells Cs t (0, 0)⟩ : RBlk).num := by simp [RBlk.num, cntO, g4]
        have hN : nums (Hr.set l ⟨b, s, .cells Cs'.toArray t (0, 0)⟩) = nums Hr := nums_set g2 hnum
        have hD := drop_all hN
        have hS : Stp st.m.wr Hr w (Hr.set l ⟨b, s, .cells Cs'.toArray t (0, 0)⟩) w' := stp_write g2 hph hb.1 (same_grown r2) hD.1 (by rw [hD.2]; simp)
        refine atR_skip r1 ⟨Hr.set l ⟨b, s, .cells Cs'.toArray t (0, 0)⟩, .raw, ?_, (apart_write (p' := ⟨b, s, .cells Cs'.toArray t (0, 0)⟩) hn hl rfl rfl g2 hph rfl).1, ⟨own_write hO.1 hn hB.len hl rfl rfl g2 hph rfl (fun k _ hk => r2.block k hk) (by rw [r2.size]; exact Nat.le_refl _) r3, hS.rd hO.2⟩, hS⟩
        rw [hN]
        exact (hB.dropI _).set (.cells g3 (by rw [hnum]; exact hph))
      · exact h.elim
  | setV l cs v =>
      simp only [resP] at h
      split at h
      · rename_i cs0 t hl
        cases hb : (st.m.wr l && !p) <;> simp only [hb, cond_true, cond_false] at h
        rw [Bool.and_eq_true] at hb
        refine ⟨_, h, .inr (.inr ⟨by simpa using hb.2, v, _, rfl, rfl, @fun D a Hr w hR hO => ?_⟩)⟩
        obtain ⟨tv, rfl, ht, hB, hn⟩ := hR
        obtain ⟨b, s, Cs, Cs', ty, cs1, V, g1, g2, g3, g4, gv, g5⟩ := fine (D := D) (by simp [Res.cs]) ht hB
        rw [hl] at g1; cases g1
        obtain ⟨w', r1, r2, r3⟩ := g5 w hO
        have hph := hB.cph hl g2
        have hnum : (⟨b, s, .cells Cs'.toArray t (0, 0)⟩ : RBlk).num = (⟨b, s, .cells Cs t (0, 0)⟩ : RBlk).num := by simp [RBlk.num, cntO, g4]
        have hN : nums (Hr.set l ⟨b, s, .cells Cs'.toArray t (0, 0)⟩) = nums Hr := nums_set g2 hnum
        have hD := drop_all hN
        have hS : Stp st.m.wr Hr w (Hr.set l ⟨b, s, .cells Cs'.toArray t (0, 0)⟩) w' := stp_write g2 hph hb.1 (same_grown r2) hD.1 (by rw [hD.2]; simp)
        refine atR_value r1 ⟨Hr.set l ⟨b, s, .cells Cs'.toArray t (0, 0)⟩, by rw [hN]; exact gv, ?_, (apart_write (p' := ⟨b, s, .cells Cs'.toArray t (0, 0)⟩) hn hl rfl rfl g2 hph rfl).1, ⟨own_write hO.1 hn hB.len hl rfl rfl g2 hph rfl (fun k _ hk => r2.block k hk) (by rw [r2.size]; exact Nat.le_refl _) r3, hS.rd hO.2⟩, hS⟩
        rw [hN]
        exact (hB.dropI _).set (.cells g3 (by rw [hnum]; exact hph))
      · exact h.elim
  | setW l F v cs =>
    simp only [resP] at h
    split at h
    · rename_i n s F0 t hl
      cases hb : (st.m.wr l && !p) <;> simp only [hb, cond_true, cond_false] at h
      rw [Bool.and_eq_true] at hb
      obtain ⟨hcs, hk⟩ := allT_spec h
      refine ⟨_, hk, .inr (.inr ⟨by simpa using hb.2, v, _, rfl, rfl, @fun D a Hr w hR hO => ?_⟩)⟩
      obtain ⟨tv, rfl, ht, hB, hn⟩ := hR
      obtain ⟨b, n', s', F1, cur, cur', t', V, g1, g2, gz, g3, g4, gv, g5⟩ := fine (D := D) hcs ht hB
      rw [hl] at g1; cases g1
      obtain ⟨w', r1, r2, r3⟩ := g5 w hO
      have hnz : 0 < n := gz
      have hph := hB.rph hl g2 hnz
      have hN : nums (Hr.set l ⟨b, s, .cells cur' t (0, 0)⟩) = nums Hr := nums_set g2 (by simp [RBlk.num, cntO, g3])
      have hD := drop_all hN
      have hS : Stp st.m.wr Hr w (Hr.set l ⟨b, s, .cells cur' t (0, 0)⟩) w' := stp_write g2 hph hb.1 (same_grown r2) hD.1 (by rw [hD.2]; simp)
      have hrow := hB.2 l _ _ hl g2
      cases hrow with
      | row0 _ => omega
      | row q1 q2 q3 q4 q5 =>
      refine atR_value r1 ⟨Hr.set l ⟨b, s, .cells cur' t (0, 0)⟩, by rw [hN]; exact gv, ?_, (apart_write (p' := ⟨b, s, .cells cur' t (0, 0)⟩) hn hl rfl rfl g2 hph rfl).1, ⟨own_write hO.1 hn hB.len hl rfl rfl g2 hph rfl (fun k _ hk => r2.block k hk) (by rw [r2.size]; exact Nat.le_refl _) r3, hS.rd hO.2⟩, hS⟩
      rw [hN]
      exact (hB.dropI _).set (.row g4 (g3.trans q2) q3 q4 q5)
    · exact h.elim
  | setR l F cs =>
    simp only [resP] at h
    split at h
    · rename_i n s F0 t hl
      cases hb : (st.m.wr l && !p) <;> simp only [hb, cond_true, cond_false] at h
      rw [Bool.and_eq_true] at hb
      obtain ⟨hcs, hk⟩ := allT_spec h
      refine ⟨_, hk, .inr (.inr ⟨by simpa using hb.2, undefA, _, rfl, rfl, @fun D a Hr w hR hO => ?_⟩)⟩
      obtain ⟨tv, rfl, ht, hB, hn⟩ := hR
      obtain ⟨b, n', s', F1, cur, cur', t', g1, g2, gz, g3, g4, g5⟩ := fine (D := D) hcs ht hB
      rw [hl] at g1; cases g1
      obtain ⟨w', r1, r2, r3⟩ := g5 w hO
      have hnz : 0 < n := gz
      have hph := hB.rph hl g2 hnz
      have hN : nums (Hr.set l ⟨b, s, .cells cur' t (0, 0)⟩) = nums Hr := nums_set g2 (by simp [RBlk.num, cntO, g3])
      have hD := drop_all hN
      have hS : Stp st.m.wr Hr w (Hr.set l ⟨b, s, .cells cur' t (0, 0)⟩) w' := stp_write g2 hph hb.1 (same_grown r2) hD.1 (by rw [hD.2]; simp)
      have hrow := hB.2 l _ _ hl g2
      cases hrow with
      | row0 _ => omega
      | row q1 q2 q3 q4 q5 =>
      refine atR_skip r1 ⟨Hr.set l ⟨b, s, .cells cur' t (0, 0)⟩, .raw, ?_, (apart_write (p' := ⟨b, s, .cells cur' t (0, 0)⟩) hn hl rfl rfl g2 hph rfl).1, ⟨own_write hO.1 hn hB.len hl rfl rfl g2 hph rfl (fun k _ hk => r2.block k hk) (by rw [r2.size]; exact Nat.le_refl _) r3, hS.rd hO.2⟩, hS⟩
      rw [hN]
      exact (hB.dropI _).set (.row g4 (g3.trans q2) q3 q4 q5)
    · exact h.elim
  | newR n s F t cs =>
    simp only [resP] at h
    cases p <;> simp only [cond_true, cond_false] at h
    obtain ⟨hcs, hk⟩ := allT_spec h
    refine ⟨_, hk, .inr (.inr ⟨rfl, _, _, rfl, rfl, @fun D a Hr w hR hO => ?_⟩)⟩
    obtain ⟨tv, rfl, ht, hB, hn⟩ := hR
    obtain ⟨g0, g5⟩ := fine (D := D) hcs ht hB
    obtain ⟨A, cap, w', r1, r3, r4⟩ := g5 w hO
    rcases r4 with ⟨cur', rfl, hn0, r2⟩ | ⟨rfl, rfl⟩
    · have hD := drop_one (nums_snoc Hr ⟨w.heap.size, s, .cells cur' t (0, 0)⟩)
      have hS : Stp st.m.wr Hr w (Hr ++ [⟨w.heap.size, s, .cells cur' t (0, 0)⟩]) w' := ⟨r3.os, r3.tape, r3.output, r3.size, ⟨_, hD.1, fun q hq _ => by rw [hD.2] at hq; rw [List.mem_singleton.1 hq]; exact .inl (Nat.le_refl _)⟩, fun k hk _ => r3.block k hk⟩
      refine atR_value r1 ⟨_, ?_, ?_, apart_new hn hO.1 hB.len (p := ⟨w.heap.size, s, .cells cur' t (0, 0)⟩) (fun _ => Nat.le_refl _), ⟨own_new hO.1 hB.len r3 (fun _ => r2.blk), hS.rd hO.2⟩, hS⟩
      · refine rel_gsl0 (s := s) (z := cur'.size) ?_ r2.le r2.size g0 (Nat.lt_of_lt_of_le hn0 r2.le) r2.max
        rw [nums_snoc, ← hB.len]; simp [nums, RBlk.num, cntO]
      · rw [nums_snoc]
        exact (hB.grow _).snoc (.row r2.row r2.size r2.le r2.max g0)
    · have hD := drop_one (nums_snoc Hr (noBlk s))
      have hS : Stp st.m.wr Hr w (Hr ++ [noBlk s]) w' := ⟨r3.os, r3.tape, r3.output, r3.size, ⟨_, hD.1, fun q hq hqp => by rw [hD.2] at hq; rw [List.mem_singleton.1 hq, noBlk_ph g0] at hqp; cases hqp⟩, fun k hk _ => r3.block k hk⟩
      have hno : (noBlk s).num.ph = false → ∀ {p : Prop}, p := fun h => by rw [noBlk_ph g0] at h; cases h
      refine atR_value r1 ⟨_, ?_, ?_, apart_new hn hO.1 hB.len (p := noBlk s) (fun h => hno h), ⟨own_new hO.1 hB.len r3 (fun h => hno h), hS.rd hO.2⟩, hS⟩
      · refine rel_gsl_no (q := (noBlk s).num) ?_
        rw [nums_snoc, ← hB.len]; simp [nums]
      · rw [nums_snoc]
        exact (hB.grow _).snoc (.row0 (noBlk_ph g0))
  | app l n n' s F t cs =>
    simp only [resP] at h
    split at h
    · rename_i N s0 F0 t0 hl
      cases hb : (st.m.wr l && !p) <;> simp only [hb, cond_true, cond_false] at h
      rw [Bool.and_eq_true] at hb
      obtain ⟨hcs, hk⟩ := allT_spec h
      refine ⟨_, hk, .inr (.inr ⟨by simpa using hb.2, _, _, rfl, rfl, @fun D a Hr w hR hO => ?_⟩)⟩
      obtain ⟨tv, rfl, ht, hB, hn⟩ := hR
      obtain ⟨N', F1, pb, g1, g2, g3, g5⟩ := fine (D := D) hcs ht hB
      rw [hl] at g1; cases g1
      have hrow := hB.2 l _ _ hl g2
      obtain ⟨A, cap, w', r1, r4⟩ := g5 w hO
      have hlH : l < st.m.H.length := (List.getElem?_eq_some_iff.1 hl).1
      have hlR : l < Hr.length := by rw [hB.len]; exact hlH
      have hlen2 : ((dropR l st.m.H).set l (.row n s F0 t (some st.m.H.length))).length = st.m.H.length := by simp [dropR, dropI]
      have hset : Hr.set l pb = Hr := by
        obtain ⟨h1, h2⟩ := List.getElem?_eq_some_iff.1 g2
        rw [← h2, List.set_getElem_self]
      -- what was a row of N is one of n
      have less : RelI E.rows (nums Hr) (.row n s F0 t (some st.m.H.length)) pb := by
        cases hrow with
        | row q1 q2 q3 q4 q5 => exact .row (rowAt_less q1 g3) q2 (Nat.le_trans g3 q3) q4 q5
        | row0 h0 =>
          obtain rfl : n = 0 := by omega
          exact .row0 h0
      -- no block of ours is written: what is at l stays
      have stay : ∀ (q : RBlk) (w2 : World), Below w.heap.size w w2 → (q.num.ph = false → w2.heap[q.b]? = some q.o) → (q.num.ph = false → w.heap.size ≤ q.b) → Apart ((dropR l st.m.H).set l (.row n s F0 t (some st.m.H.length)) ++ [.row n' s F t none]) (Hr ++ [q]) ∧ OwnM ((dropR l st.m.H).set l (.row n s F0 t (some st.m.H.length)) ++ [.row n' s F t none]) (Hr ++ [q]) w2 := fun q w2 hbel hq1 hq2 => by
        have ap1 : Apart ((dropR l st.m.H).set l (.row n s F0 t (some st.m.H.length))) Hr := by
          cases hph : pb.num.ph
          · have := (apart_write (it' := .row n s F0 t (some st.m.H.length)) (p' := pb) hn hl rfl rfl g2 hph rfl).1
            rwa [hset] at this
          · intro k m jt kt x y hne h1 h2 v1 v2 x1 x2 z1 z2 hxy
            have fk : ∀ (k : Nat) jt x, ((dropR l st.m.H).set l (.row n s F0 t (some st.m.H.length)))[k]? = some jt → jt.live = true → Hr[k]? = some x → x.num.ph = false → k ≠ l ∧ st.m.H[k]? = some jt := fun k jt x h1 v1 x1 z1 => by
              have hkl : k ≠ l := fun e => by subst e; rw [g2] at x1; cases x1; rw [hph] at z1; cases z1
              rw [List.getElem?_set_ne (Ne.symm hkl)] at h1
              exact ⟨hkl, (dropR_get h1 v1).1⟩
            exact hn k m jt kt x y hne (fk k jt x h1 v1 x1 z1).2 (fk m kt y h2 v2 x2 z2).2 v1 v2 x1 x2 z1 z2 hxy
        have ow := own_said (it' := .row n s F0 t (some st.m.H.length)) hO.1 hl rfl g2
        have hlen1 : Hr.length = ((dropR l st.m.H).set l (.row n s F0 t (some st.m.H.length))).length := by rw [hlen2]; exact hB.len
        exact ⟨apart_new ap1 ow hlen1 hq2, own_new ow hlen1 hbel hq1⟩
      rcases r4 with ⟨b, cur, cur', rfl, hph, hs0, hF0, rfl, r2, r3, e2, e3⟩ | ⟨cur', rfl, hn0, hs0, r2, hbel⟩ | ⟨rfl, rfl, rfl⟩
      · -- in place
        cases hrow with
        | row0 h0 => rw [h0] at hph; cases hph
        | row q1 q2 q3 q4 q5 =>
        rename_i c
        have hc0 : 0 < cap := by
          have h1 : cur.size = cap * s := e2 ▸ r2.size
          rcases Nat.eq_zero_or_pos cap with h | h
          · subst h
            rw [Nat.zero_mul] at h1
            have hs1 : Nat.blt 0 s = true := by rw [Nat.blt_eq]; exact q5
            have : (⟨b, s, .cells cur t (0, 0)⟩ : RBlk).num.ph = true := by
              unfold Num.ph RBlk.num cntO
              simp only [h1, hs1]; rfl
            rw [this] at hph
            cases hph
          · exact h
        have hnum : (⟨b, s, .cells cur' t (0, 0)⟩ : RBlk).num = (⟨b, s, .cells cur t (0, 0)⟩ : RBlk).num := by simp [RBlk.num, cntO, e2]
        have hN : nums (Hr.set l ⟨b, s, .cells cur' t (0, 0)⟩) = nums Hr := nums_set g2 hnum
        have hN2 : nums (Hr.set l ⟨b, s, .cells cur' t (0, 0)⟩ ++ [⟨b, s, .cells cur' t (0, 0)⟩]) = nums Hr ++ [⟨b, s, cur'.size⟩] := by rw [nums_snoc, hN]; rfl
        have hD := drop_one hN2
        have hS : Stp st.m.wr Hr w (Hr.set l ⟨b, s, .cells cur' t (0, 0)⟩ ++ [⟨b, s, .cells cur' t (0, 0)⟩]) w' := stp_write g2 hph hb.1 r3 hD.1 (by rw [hD.2]; intro x hx _; rw [List.mem_singleton.1 hx]; exact .inr rfl)
        obtain ⟨ap1, ap2⟩ := apart_write (it' := .row n s F0 t (some st.m.H.length)) (p' := ⟨b, s, .cells cur' t (0, 0)⟩) hn hl rfl rfl g2 hph rfl
        have ow := own_write (it' := .row n s F0 t (some st.m.H.length)) (p' := ⟨b, s, .cells cur' t (0, 0)⟩) hO.1 hn hB.len hl rfl rfl g2 hph rfl (fun k hk1 hk2 => r3.block k hk1 fun e => hk2 (Option.some.inj e)) r3.size r2.blk
        have hlen1 : (Hr.set l ⟨b, s, .cells cur' t (0, 0)⟩).length = ((dropR l st.m.H).set l (.row n s F0 t (some st.m.H.length))).length := by simp [dropR, dropI, hB.len]
        refine atR_value r1 ⟨_, ?_, ?_, ?_, ⟨?_, hS.rd hO.2⟩, hS⟩
        · refine rel_gsl0 (s := s) (z := cur'.size) ?_ r2.le r2.size q5 hc0 r2.max
          rw [hN2, ← hB.len]; simp [nums]
        · rw [hN2]
          refine RelB.snoc ?_ (.row r2.row r2.size r2.le r2.max q5)
          exact ((hB.grow _).dropI _).set (.row e3 (e2.trans q2) (Nat.le_trans g3 q3) q4 q5)
        · -- apart
          intro k m jt kt x y hne h1 h2 hj hk2 x1 x2 z1 z2 hxy
          have key : ∀ (k : Nat) jt x, (((dropR l st.m.H).set l (.row n s F0 t (some st.m.H.length))) ++ [AIt.row n' s F t none])[k]? = some jt → (Hr.set l ⟨b, s, .cells cur' t (0, 0)⟩ ++ [⟨b, s, .cells cur' t (0, 0)⟩])[k]? = some x → (k < st.m.H.length ∧ ((dropR l st.m.H).set l (.row n s F0 t (some st.m.H.length)))[k]? = some jt ∧ (Hr.set l ⟨b, s, .cells cur' t (0, 0)⟩)[k]? = some x) ∨ (k = st.m.H.length ∧ jt = .row n' s F t none ∧ x = ⟨b, s, .cells cur' t (0, 0)⟩) := fun k jt x h1 h2 => by
            rcases Nat.lt_trichotomy k st.m.H.length with h | h | h
            · rw [List.getElem?_append_left (by omega)] at h1
              rw [List.getElem?_append_left (by omega)] at h2
              exact .inl ⟨h, h1, h2⟩
            · subst h
              rw [List.getElem?_append_right (by omega), hlen2, Nat.sub_self] at h1
              rw [List.getElem?_append_right (by omega), hlen1, hlen2, Nat.sub_self] at h2
              cases h1; cases h2
              exact .inr ⟨rfl, rfl, rfl⟩
            · rw [List.getElem?_eq_none (by rw [List.length_append, hlen2]; simp only [List.length_cons, List.length_nil]; omega)] at h1
              cases h1
          have atl : ∀ (k : Nat) jt x, k < st.m.H.length → ((dropR l st.m.H).set l (.row n s F0 t (some st.m.H.length)))[k]? = some jt → (Hr.set l ⟨b, s, .cells cur' t (0, 0)⟩)[k]? = some x → jt.live = true → x.num.ph = false → x.b = b → jt.owner k = st.m.H.length := fun k jt x hk h1 h2 hj hxp hx => by
            by_cases e : k = l
            · subst e
              rw [List.getElem?_set_self (by simp [dropR, dropI]; omega)] at h1
              cases h1; rfl
            · exact absurd hx (ap2 k jt x e h1 hj h2 hxp)
          rcases key k jt x h1 x1 with ⟨a1, a2, a3⟩ | ⟨a1, a2, a3⟩ <;> rcases key m kt y h2 x2 with ⟨b1, b2, b3⟩ | ⟨b1, b2, b3⟩
          · exact ap1 k m jt kt x y hne a2 b2 hj hk2 a3 b3 z1 z2 hxy
          · subst b2; subst b3
            rw [atl k jt x a1 a2 a3 hj z1 hxy, b1]; rfl
          · subst a2; subst a3
            rw [atl m kt y b1 b2 b3 hk2 z2 hxy.symm, a1]; rfl
          · omega
        · -- own
          intro k jt x h1 x1 xp
          rcases Nat.lt_trichotomy k st.m.H.length with h | h | h
          · rw [List.getElem?_append_left (by omega)] at h1
            rw [List.getElem?_append_left (by omega)] at x1
            exact ow k jt x h1 x1 xp
          · subst h
            rw [List.getElem?_append_right (by omega), hlen1, hlen2, Nat.sub_self] at x1
            cases x1
            exact ⟨(Array.getElem?_eq_some_iff.1 r2.blk).1, fun _ => r2.blk⟩
          · rw [List.getElem?_eq_none (by rw [List.length_append, hlen2]; simp only [List.length_cons, List.length_nil]; omega)] at h1
            cases h1
      · -- a new block
        have hD := drop_one (nums_snoc Hr ⟨w.heap.size, s, .cells cur' t (0, 0)⟩)
        have hS : Stp st.m.wr Hr w (Hr ++ [⟨w.heap.size, s, .cells cur' t (0, 0)⟩]) w' := ⟨hbel.os, hbel.tape, hbel.output, hbel.size, ⟨_, hD.1, fun q hq _ => by rw [hD.2] at hq; rw [List.mem_singleton.1 hq]; exact .inl (Nat.le_refl _)⟩, fun k hk _ => hbel.block k hk⟩
        obtain ⟨ap, ow⟩ := stay ⟨w.heap.size, s, .cells cur' t (0, 0)⟩ w' hbel (fun _ => r2.blk) (fun _ => Nat.le_refl _)
        refine atR_value r1 ⟨_, ?_, ?_, ap, ⟨ow, hS.rd hO.2⟩, hS⟩
        · refine rel_gsl0 (s := s) (z := cur'.size) ?_ r2.le r2.size hs0 (Nat.lt_of_lt_of_le hn0 r2.le) r2.max
          rw [nums_snoc, ← hB.len]; simp [nums, RBlk.num, cntO]
        · rw [nums_snoc]
          refine RelB.snoc ?_ (.row r2.row r2.size r2.le r2.max hs0)
          have := ((hB.grow [(⟨w.heap.size, s, .cells cur' t (0, 0)⟩ : RBlk).num]).dropI (fun k it => !Nat.beq k l && Nat.beq (it.owner k) l)).set (l := l) (less.grow _)
          rwa [hset] at this
      · -- nothing at all
        have hs0 : 0 < s := by
          cases hrow with
          | row q1 q2 q3 q4 q5 => exact q5
          | row0 h0 =>
            unfold Num.ph at h0
            rw [Bool.and_eq_true] at h0
            have := h0.1
            rwa [Nat.blt_eq] at this
        have hD := drop_one (nums_snoc Hr (noBlk s))
        have hno : (noBlk s).num.ph = false → ∀ {p : Prop}, p := fun h => by rw [noBlk_ph hs0] at h; cases h
        have hS : Stp st.m.wr Hr w' (Hr ++ [noBlk s]) w' := ⟨rfl, rfl, rfl, Nat.le_refl _, ⟨_, hD.1, fun q hq hqp => by rw [hD.2] at hq; rw [List.mem_singleton.1 hq] at hqp; exact hno hqp⟩, fun k hk _ => rfl⟩
        obtain ⟨ap, ow⟩ := stay (noBlk s) w' (Below.refl _ _) (fun h => hno h) (fun h => hno h)
        refine atR_value r1 ⟨_, ?_, ?_, ap, ⟨ow, hS.rd hO.2⟩, hS⟩
        · refine rel_gsl_no (q := (noBlk s).num) ?_
          rw [nums_snoc, ← hB.len]; simp [nums]
        · rw [nums_snoc]
          refine RelB.snoc ?_ (.row0 (noBlk_ph hs0))
          have := ((hB.grow [(noBlk s).num]).dropI (fun k it => !Nat.beq k l && Nat.beq (it.owner k) l)).set (l := l) (less.grow _)
          rwa [hset] at this
    · exact h.elim
end
end

section
variable {D : List Deferred} {R : Rws}
/-- An operation that has come up in its turn. -/
theorem did_seq {P : Program} {R : Rws} {o : Oper} {st st' : ASt} (h : Did P R false o st st') {a : Act} {Hr : List RBlk} {w : World} (hR : RelSt R D st a Hr) (hO : OwnK R st.m.H Hr w) {Kn : Act → World → Prop} {Q : Exit → Act → World → Prop}
    (hk : ∀ a' Hr' w', RelSt R D st' a' Hr' → OwnK R st'.m.H Hr' w' → Stp st.m.wr Hr w Hr' w' → Kn a' w') : o.wp P a w Kn Q := by
  have hR' := hR
  obtain ⟨vs, rfl, ht, hB, hn⟩ := hR'
  rcases h with ⟨v, ds, rfl, h⟩ | ⟨_, v, it, mk, rfl, h⟩ | ⟨_, v, m', rfl, hwr, h⟩
  · obtain ⟨V, h1, h2⟩ := h _ _ hR
    obtain ⟨vs', e, hv⟩ := putA_rel ht o.dst h1
    exact wp_of_atR (h2 w hO) fun u w' ⟨hu, hb⟩ => by
      subst hu
      have hS : Stp st.m.wr Hr w Hr w' := .of_below hb
      exact hk _ Hr w' ⟨vs', e, hv, hB, hn⟩ ⟨hO.1.grow hb, hS.rd hO.2⟩ hS
  · obtain ⟨ob, h1, h2, h3⟩ := h _ _ hR
    exact wp_of_atR (h3 w hO) fun u w' ⟨hu, hw⟩ => by
      subst hu; subst hw
      have hq := nums_snoc Hr ⟨w.heap.size, 0, ob⟩
      obtain ⟨vs', e, hv⟩ := putA_rel (ht.grow [(⟨w.heap.size, 0, ob⟩ : RBlk).num]) o.dst (h2 _)
      have hb := World.below_alloc w ob
      have hD := drop_one hq
      have hS : Stp st.m.wr Hr w (Hr ++ [⟨w.heap.size, 0, ob⟩]) (w.alloc ob) := ⟨hb.os, hb.tape, hb.output, hb.size, ⟨_, hD.1, fun q hq _ => by rw [hD.2] at hq; rw [List.mem_singleton.1 hq]; exact .inl (Nat.le_refl _)⟩, fun k hk _ => hb.block k hk⟩
      refine hk _ (Hr ++ [⟨w.heap.size, 0, ob⟩]) _ ⟨vs', e, by rw [hq]; exact hv, by rw [hq]; exact (hB.grow _).snoc ((h1 _).grow _), apart_new hn hO.1 hB.len (fun _ => Nat.le_refl _)⟩ ⟨own_new hO.1 hB.len hb (fun _ => heap_alloc_new w _), hS.rd hO.2⟩ hS
  · refine wp_of_atR (h _ Hr w hR hO) fun u w' ⟨Hr', h1, h2, h3, h4, h5⟩ => ?_
    obtain ⟨σ, hσ, _⟩ := h5.ext
    obtain ⟨vs', e, hv'⟩ := putA_rel (R := R) (ρ := nums Hr') (by rw [hσ]; exact ht.grow σ) o.dst h1
    exact hk _ Hr' w' ⟨vs', e, hv', h2, h3⟩ h4 h5
theorem wanted_some {ops : List Oper} {o : Oper} {tl : Array Value} {j d : Nat} {want b : Bool} (hg : o.guard = some (j, want)) (hd : (ops[j]?).bind (·.dst) = some d) (hv : tl[d]? = some (.bool b)) : Region.wanted o (yielded ops.toArray tl) = (b == want) := by
  unfold Region.wanted yielded
  rw [hg]
  have e : (ops.toArray[j]?).bind (·.dst) = some d := by simpa using hd
  simp only [e, Option.bind_some, hv]
  rfl
theorem wanted_not {ops : List Oper} {o : Oper} {tl : Array Value} {j d : Nat} {want : Bool} {v : Value} (hg : o.guard = some (j, want)) (hd : (ops[j]?).bind (·.dst) = some d) (hv : tl[d]? = some v) (hn : notBool v = true) : Region.wanted o (yielded ops.toArray tl) = false := by
  unfold Region.wanted yielded
  rw [hg]
  have e : (ops.toArray[j]?).bind (·.dst) = some d := by simpa using hd
  simp only [e, Option.bind_some, hv]
  cases v <;> first | rfl | cases hn
theorem guard_sound {ops : List Oper} {o : Oper} {st : ASt} {yes no : ASt → Prop} (h : guardP ops o st yes no) : ∃ st1, (∀ {D : List Deferred} a Hr, RelSt R D st a Hr → RelSt R D st1 a Hr) ∧ st1.m.wr = st.m.wr ∧ st1.m.H = st.m.H ∧
    ((yes st1 ∧ ∀ {D : List Deferred} a Hr, RelSt R D st a Hr → Region.wanted o (yielded ops.toArray a.tmps) = true) ∨ (o.guard ≠ none ∧ no st1 ∧ ∀ {D : List Deferred} a Hr, RelSt R D st a Hr → Region.wanted o (yielded ops.toArray a.tmps) = false)) := by
  unfold guardP at h
  split at h
  · rename_i hg
    exact ⟨st, fun _ _ h => h, rfl, rfl, .inl ⟨h, fun a Hr _ => by simp [Region.wanted, hg]⟩⟩
  · rename_i j want hg
    split at h
    · exact h.elim
    · rename_i d hd
      have key : ∀ (l b : Bool), st.tl[d]? = some (.bool l b) → ∀ {D : List Deferred} a Hr, RelSt R D st a Hr → Region.wanted o (yielded ops.toArray a.tmps) = (b == want) := by
        rintro l b hb D a Hr ⟨vs, rfl, ht, _, _⟩
        obtain ⟨V, h1, h2⟩ := ht.get hb
        obtain rfl := h2.bool_inv
        exact wanted_some hg hd (by simpa using h1)
      have hgn : o.guard ≠ none := by rw [hg]; simp
      split at h
      · rename_i b hb
        have k : ∀ {D : List Deferred} a Hr, RelSt R D st a Hr → Region.wanted o (yielded ops.toArray a.tmps) = (b == want) := key _ _ hb
        cases hw : (b == want) <;> simp only [hw, cond_true, cond_false] at h
        · exact ⟨st, fun _ _ h => h, rfl, rfl, .inr ⟨hgn, h, fun a Hr hR => by rw [k a Hr hR, hw]⟩⟩
        · exact ⟨st, fun _ _ h => h, rfl, rfl, .inl ⟨h, fun a Hr hR => by rw [k a Hr hR, hw]⟩⟩
      · rename_i b hb
        have k : ∀ {D : List Deferred} a Hr, RelSt R D st a Hr → Region.wanted o (yielded ops.toArray a.tmps) = (b == want) := key _ _ hb
        split at h
        · rename_i c ds hds
          obtain ⟨rfl, h⟩ := h
          have hsame : ∀ {D : List Deferred} a Hr, RelSt R D st a Hr → RelSt R D ⟨st.tl.set d (.bool true b), ⟨st.m.H, ds, st.m.wr⟩⟩ a Hr := by
            rintro D a Hr ⟨vs, rfl, ht, hB, hn⟩
            obtain ⟨V, h1, h2⟩ := ht.get hb
            obtain rfl := h2.bool_inv
            exact ⟨vs, rfl, ht.setSame h1 .bool, hB, hn⟩
          cases hw : (b == want) <;> simp only [hw, cond_true, cond_false] at h
          · exact ⟨⟨st.tl.set d (.bool true b), ⟨st.m.H, ds, st.m.wr⟩⟩, hsame, rfl, rfl, .inr ⟨hgn, h, fun a Hr hR => by rw [k a Hr hR, hw]⟩⟩
          · exact ⟨⟨st.tl.set d (.bool true b), ⟨st.m.H, ds, st.m.wr⟩⟩, hsame, rfl, rfl, .inl ⟨h, fun a Hr hR => by rw [k a Hr hR, hw]⟩⟩
        · exact h.elim
      · rename_i v hb
        cases hv : notBool v <;> simp only [hv, cond_true, cond_false] at h
        refine ⟨st, fun _ _ h => h, rfl, rfl, .inr ⟨hgn, h, ?_⟩⟩
        rintro D a Hr ⟨vs, rfl, ht, _, _⟩
        obtain ⟨V, h1, h2⟩ := ht.get hb
        cases h2
        exact wanted_not hg hd (by simpa using h1) hv
      · exact h.elim

section
variable {E : Env} (hE : EnvOK E) {call : CallF} (hC : CallOK E call)
include hE hC
theorem doP_sound {p : Bool} {o : Oper} {st : ASt} {K : ASt → Prop} (h : doP E call p o st K) : ∃ st', K st' ∧ Did E.P E.rows p o st st' := by
  unfold doP at h
  split at h
  · rename_i g xs ts hop
    split at h
    · rename_i f fs cap vs hg hvs
      rw [Option.bind_eq_some_iff] at hg
      obtain ⟨fv, hg, hfn⟩ := hg
      obtain ⟨v, m', h1, h2, hen, h3⟩ := callP_sound hE hC h
      refine ⟨_, h1, ?_⟩
      have hrun : ∀ {D : List Deferred} a Hr, RelSt E.rows D st a Hr → ∃ Args, RelL E.rows (nums Hr) (fs ++ vs ++ cap) Args ∧ ∀ w, (execOp a.eval o).run E.P w = .ok (.enter f Args.toArray) w := by
        rintro D a Hr ⟨tv, rfl, ht, hB, hn⟩
        have e1 := evO_sound (D := D) ht _ _ hg
        generalize hge : (⟨tv.toArray, D⟩ : Act).eval g = gv at e1
        obtain ⟨us, caps, rfl, hus, hcaps⟩ := fnA_rel hfn e1
        have e2 := evs_sound (evO_sound (D := D) ht) hvs
        refine ⟨_, (hus.append e2).append hcaps, fun w => ?_⟩
        obtain ⟨dst, op, ty, pos, aft, gd⟩ := o
        subst hop
        rw [run_callF hen hge w]
        congr 2
        apply Array.toList_inj.1
        simp
      rcases h3 with ⟨hm, V, hV, hc⟩ | ⟨hp, hc⟩
      · refine .inl ⟨v, m'.ds, ?_, @fun D a Hr hR => ?_⟩
        · obtain ⟨H', ds', lo'⟩ := m'; simp only at hm h2; subst hm; subst h2; rfl
        · obtain ⟨Args, ha, hr⟩ := hrun a Hr hR
          obtain ⟨tv, _, ht, hB, hn⟩ := hR
          exact ⟨V, Rel.of_told hV, fun w hO => at1_call (hr w) (hc Hr w Args ha hB hn hO)⟩
      · refine .inr (.inr ⟨hp, v, m', rfl, h2, @fun D a Hr w hR hO => ?_⟩)
        obtain ⟨Args, ha, hr⟩ := hrun a Hr hR
        obtain ⟨tv, _, ht, hB, hn⟩ := hR
        unfold atR Oper.wp
        rw [hr w]
        simp only [Oper.upon]
        refine (hc Hr w Args ha hB hn hO).mono ?_
        rintro e w' ⟨V, Hr', rfl, x1, x2, x3, x4, x5⟩
        exact ⟨V, rfl, Hr', x1, x2, x3, x4, x5⟩
    · exact h.elim
  · split at h
    · rename_i op hne r hop
      exact resP_sound hE hop h
    · exact h.elim
/-- One operation of a region: skipped or done. -/
theorem step_sound {p : Bool} {ops : List Oper} {o : Oper} {st : ASt} {K : ASt → Prop} (h : stepP E call p ops o st K) : ∃ st1 st', K st' ∧ (∀ {D : List Deferred} a Hr, RelSt E.rows D st a Hr → RelSt E.rows D st1 a Hr) ∧ st1.m.wr = st.m.wr ∧ st1.m.H = st.m.H ∧
    (((∀ {D : List Deferred} a Hr, RelSt E.rows D st a Hr → Region.wanted o (yielded ops.toArray a.tmps) = true) ∧ Did E.P E.rows p o st1 st') ∨ (o.guard ≠ none ∧ (∀ {D : List Deferred} a Hr, RelSt E.rows D st a Hr → Region.wanted o (yielded ops.toArray a.tmps) = false) ∧ st' = st1.put o.dst undefA)) := by
  obtain ⟨st1, h1, h2, h3, h4 | ⟨hgn, h4⟩⟩ := guard_sound h
  · obtain ⟨h5, h6⟩ := h4
    obtain ⟨st', h7, h8⟩ := doP_sound hE hC h5
    exact ⟨st1, st', h7, h1, h2, h3, .inl ⟨h6, h8⟩⟩
  · obtain ⟨h5, h6⟩ := h4
    exact ⟨st1, _, h5, h1, h2, h3, .inr ⟨hgn, h6, rfl⟩⟩
omit hE hC in
theorem Did.lo {P : Program} {p : Bool} {o : Oper} {st st' : ASt} (h : Did P R p o st st') : st'.m.wr = st.m.wr := by
  rcases h with ⟨v, ds, rfl, _⟩ | ⟨_, v, it, mk, rfl, _⟩ | ⟨_, v, m', rfl, h, _⟩ <;> first | rfl | exact h
theorem list_sound (ops : List Oper) : ∀ (l : List Oper) (st : ASt) (K : ASt → Prop), listP E call ops l st K → ∃ st', K st' ∧ st'.m.wr = st.m.wr ∧ ∀ {D : List Deferred} a Hr w, RelSt E.rows D st a Hr → OwnK E.rows st.m.H Hr w → ∀ Q : Exit → Act → World → Prop,
    (∀ a' Hr' w', RelSt E.rows D st' a' Hr' → OwnK E.rows st'.m.H Hr' w' → Stp st.m.wr Hr w Hr' w' → Q .normal a' w') → wpList E.P ops.toArray Q l a w
  | [], st, K, h => ⟨st, h, rfl, fun a Hr w hR hO Q hq => hq a Hr w hR hO (.refl _ _ _)⟩
  | o :: r, st, K, h => by
    obtain ⟨st1, st2, hk, h1, h2, h3, h4⟩ := step_sound hE hC h
    obtain ⟨st', hK, hlo, hl⟩ := list_sound ops r st2 K hk
    rcases h4 with ⟨hw, hd⟩ | ⟨_, hw, rfl⟩
    · refine ⟨st', hK, hlo.trans (hd.lo.trans h2), fun a Hr w hR hO Q hq => ?_⟩
      apply wpList_step
      intro Kn hKn
      rw [if_pos (hw a Hr hR)]
      refine did_seq hd (h1 a Hr hR) (by rw [h3]; exact hO) fun a' Hr' w' hR' hO' hS => hKn _ _ (hl a' Hr' w' hR' hO' Q fun a2 Hr2 w2 hR2 hO2 hS2 => hq a2 Hr2 w2 hR2 hO2 ?_)
      rw [hd.lo, h2] at hS2
      rw [h2] at hS
      exact hS.trans hS2
    · refine ⟨st', hK, hlo.trans h2, fun a Hr w hR hO Q hq => ?_⟩
      apply wpList_step
      intro Kn hKn
      rw [if_neg (by rw [hw a Hr hR]; simp)]
      obtain ⟨vs, rfl, ht, hB, hn⟩ := h1 a Hr hR
      obtain ⟨vs', e, hv⟩ := putA_rel (v := undefA) (V := undef) ht o.dst .raw
      refine hKn _ _ (hl _ Hr w ⟨vs', e, hv, hB, hn⟩ (show OwnK E.rows st1.m.H Hr w by rw [h3]; exact hO) Q fun a2 Hr2 w2 hR2 hO2 hS2 => hq a2 Hr2 w2 hR2 hO2 ?_)
      have : (st1.put o.dst undefA).m.wr = st.m.wr := h2
      rw [this] at hS2
      exact hS2
omit hE hC in
theorem RelSt.put {st : ASt} {a : Act} {Hr : List RBlk} (h : RelSt R D st a Hr) (d : Option Tmp) {v : AV} {V : Value} (hv : Rel R (nums Hr) v V) (ds : List Bool) : RelSt R D ⟨putA st.tl d v, ⟨st.m.H, ds, st.m.wr⟩⟩ (a.put d V) Hr := by
  obtain ⟨vs, rfl, ht, hB, hn⟩ := h
  obtain ⟨vs', e, hv'⟩ := putA_rel ht d hv
  exact ⟨vs', e, hv', hB, hn⟩
end
end

section
variable {D : List Deferred} {R : Rws}

/-- What is known of the world in the head: what lies there, and what has been written since. -/
def Cl (R : Rws) (wr : Nat → Bool) (Hr0 : List RBlk) (W : World) (H : Mem) (Hr : List RBlk) : Fw.WP := fun w => OwnK R H Hr w ∧ Stp wr Hr0 W Hr w
/-- What nobody in the head writes. -/
def StP (R : Rws) (stat : Option (Nat → Bool)) (Hr0 : List RBlk) : Fw.WP := fun w => (∀ (l : Nat) p, (stat.getD fun _ => false) l = true → Hr0[l]? = some p → w.heap[p.b]? = some p.o) ∧ Rd R (bs (nums Hr0)) w
def Stat (stat : Option (Nat → Bool)) (Hr0 : List RBlk) (H : Mem) (Hr : List RBlk) : Prop := ∀ l, (stat.getD fun _ => false) l = true → ∃ p cs t, Hr0[l]? = some p ∧ Hr[l]? = some p ∧ H[l]? = some (.cells cs t) ∧ p.num.ph = false
theorem Rd.below' {nb : List Nat} {u v : World} (hr : Rd R nb u) (h : Below u.heap.size u v) : Rd R nb v := fun j r hj b off ha h0 => by
  obtain ⟨h1, h2, h3⟩ := hr j r hj b off ha h0
  refine ⟨h1, Nat.lt_of_lt_of_le h2 h.size, fun i hi q u' hu => ?_⟩
  exact (World.cell?_of_block (a := ⟨b, off + i * r.s + q, none⟩) (h.block b h2)).trans (h3 i hi q u' hu)
theorem cl_stable {wr : Nat → Bool} {Hr0 : List RBlk} {W : World} {H : Mem} {Hr : List RBlk} : Fw.Stable (Cl R wr Hr0 W H Hr) := fun w w' ⟨h1, h2⟩ hb => ⟨⟨h1.1.grow hb, h1.2.below' hb⟩, h2.trans (.of_below hb)⟩
theorem Rd.sub {nb nb' : List Nat} {w : World} (h : Rd R nb w) (hs : ∀ b ∈ nb', b ∈ nb) : Rd R nb' w := fun j r hj b off ha h0 => by
  obtain ⟨h1, h2⟩ := h j r hj b off ha h0
  exact ⟨fun hm => h1 (hs b hm), h2⟩
theorem cl_st {wr : Nat → Bool} {stat : Option (Nat → Bool)} {Hr0 : List RBlk} {W : World} {H : Mem} {Hr : List RBlk} (hs : Stat stat Hr0 H Hr) : ∀ w, Cl R wr Hr0 W H Hr w → StP R stat Hr0 w := fun w ⟨h1, h2⟩ => by
  refine ⟨fun l p hl hp => ?_, h1.2.sub fun b hb => ?_⟩
  · obtain ⟨p', cs, t, e1, e2, e3, e4⟩ := hs l hl
    rw [hp] at e1; cases e1
    exact (h1.1 l _ p e3 e2 e4).2 rfl
  · obtain ⟨σ, e, _⟩ := h2.ext
    rw [e, bs_append]
    exact List.mem_append_left _ hb
theorem Stat.snoc {stat : Option (Nat → Bool)} {Hr0 : List RBlk} {H : Mem} {Hr : List RBlk} (hs : Stat stat Hr0 H Hr) (it : List AIt) (p : List RBlk) : Stat stat Hr0 (H ++ it) (Hr ++ p) := fun l hl => by
  obtain ⟨q, cs, t, e1, e2, e3, e4⟩ := hs l hl
  exact ⟨q, cs, t, e1, getElem?_append_some e2, getElem?_append_some e3, e4⟩
/-- What has been done, whatever it is. -/
theorem did_any {P : Program} {R : Rws} {p : Bool} {o : Oper} {st st' : ASt} (h : Did P R p o st st') {a : Act} {Hr : List RBlk} {w : World} (hR : RelSt R D st a Hr) (hO : OwnK R st.m.H Hr w) :
    atR P o a w fun u w' => ∃ Hr', RelSt R D st' (a.put o.dst u) Hr' ∧ OwnK R st'.m.H Hr' w' ∧ Stp st.m.wr Hr w Hr' w' := by
  have hR' := hR
  obtain ⟨vs, rfl, ht, hB, hn⟩ := hR'
  rcases h with ⟨v, ds, rfl, h⟩ | ⟨_, v, it, mk, rfl, h⟩ | ⟨_, v, m', rfl, hwr, h⟩
  · obtain ⟨V, h1, h2⟩ := h _ _ hR
    obtain ⟨vs', e, hv⟩ := putA_rel ht o.dst h1
    refine atR_mono (h2 w hO) fun u w' ⟨hu, hb⟩ => ?_
    subst hu
    have hS : Stp st.m.wr Hr w Hr w' := .of_below hb
    exact ⟨Hr, ⟨vs', e, hv, hB, hn⟩, ⟨hO.1.grow hb, hS.rd hO.2⟩, hS⟩
  · obtain ⟨ob, h1, h2, h3⟩ := h _ _ hR
    refine atR_mono (h3 w hO) fun u w' ⟨hu, hw⟩ => ?_
    subst hu; subst hw
    have hq := nums_snoc Hr ⟨w.heap.size, 0, ob⟩
    obtain ⟨vs', e, hv⟩ := putA_rel (ht.grow [(⟨w.heap.size, 0, ob⟩ : RBlk).num]) o.dst (h2 _)
    have hb := World.below_alloc w ob
    have hD := drop_one hq
    have hS : Stp st.m.wr Hr w (Hr ++ [⟨w.heap.size, 0, ob⟩]) (w.alloc ob) := ⟨hb.os, hb.tape, hb.output, hb.size, ⟨_, hD.1, fun q hq _ => by rw [hD.2] at hq; rw [List.mem_singleton.1 hq]; exact .inl (Nat.le_refl _)⟩, fun k hk _ => hb.block k hk⟩
    exact ⟨Hr ++ [⟨w.heap.size, 0, ob⟩], ⟨vs', e, by rw [hq]; exact hv, by rw [hq]; exact (hB.grow _).snoc ((h1 _).grow _), apart_new hn hO.1 hB.len (fun _ => Nat.le_refl _)⟩, ⟨own_new hO.1 hB.len hb (fun _ => heap_alloc_new w _), hS.rd hO.2⟩, hS⟩
  · refine atR_mono (h _ Hr w hR hO) fun u w' ⟨Hr', h1, h2, h3, h4, h5⟩ => ?_
    obtain ⟨σ, hσ, _⟩ := h5.ext
    obtain ⟨vs', e, hv'⟩ := putA_rel (R := R) (ρ := nums Hr') (by rw [hσ]; exact ht.grow σ) o.dst h1
    exact ⟨Hr', ⟨vs', e, hv', h2, h3⟩, h4, h5⟩
theorem apart_fresh {H : Mem} {Hr : List RBlk} (ha : Apart H Hr) (hl : Hr.length = H.length) {it : AIt} {p : RBlk} (hf : ∀ q ∈ Hr, q.num.ph = false → q.b ≠ p.b) : Apart (H ++ [it]) (Hr ++ [p]) := by
  have key : ∀ (l : Nat) jt q, (H ++ [it])[l]? = some jt → (Hr ++ [p])[l]? = some q → q.num.ph = false → (l < H.length ∧ H[l]? = some jt ∧ Hr[l]? = some q ∧ q.b ≠ p.b) ∨ (l = H.length ∧ q = p) := fun l jt q h1 h2 hq => by
    rcases Nat.lt_trichotomy l H.length with hlt | heq | hgt
    · rw [List.getElem?_append_left hlt] at h1
      rw [List.getElem?_append_left (by rw [hl]; exact hlt)] at h2
      exact .inl ⟨hlt, h1, h2, hf q (List.mem_of_getElem? h2) hq⟩
    · subst heq
      rw [List.getElem?_append_right (by rw [hl]; exact Nat.le_refl _), hl, Nat.sub_self] at h2
      cases h2
      exact .inr ⟨rfl, rfl⟩
    · rw [List.getElem?_eq_none (by simp; omega)] at h1
      cases h1
  intro l m it1 it2 p1 p2 hne h1 h2 l1 l2 q1 q2 z1 z2 hb
  rcases key l it1 p1 h1 q1 z1 with ⟨a1, a2, a3, a4⟩ | ⟨a1, a5⟩ <;> rcases key m it2 p2 h2 q2 z2 with ⟨b1, b2, b3, b4⟩ | ⟨b1, b5⟩
  · exact ha l m it1 it2 p1 p2 hne a2 b2 l1 l2 a3 b3 z1 z2 hb
  · rw [b5] at hb; exact absurd hb a4
  · rw [a5] at hb; exact absurd hb.symm b4
  · omega
theorem mem_lt {H : Mem} {Hr : List RBlk} {w : World} (h : OwnM H Hr w) (hl : Hr.length = H.length) : ∀ q ∈ Hr, q.num.ph = false → q.b < w.heap.size := fun q hq hqp => by
  obtain ⟨l, hl2, e⟩ := List.mem_iff_getElem.1 hq
  exact own_lt h hl (l := l) (by rw [List.getElem?_eq_getElem hl2, e]) hqp
/-- What is known of one more block that is new. -/
theorem cl_more {wr : Nat → Bool} {Hr0 : List RBlk} {W w w1 : World} {H : Mem} {Hr : List RBlk} {c : Array Value} {t : TypeId} {b : Nat} {cs : List AV} (hl : Hr.length = H.length) (h : Cl R wr Hr0 W H Hr w) (h1 : Rd R [] w1 ∧ W.heap.size ≤ w1.heap.size) (hb : w1.heap.size ≤ b) (hB : Blk w b c t) : Cl R wr Hr0 W (H ++ [.cells cs t]) (Hr ++ [⟨b, 0, .cells c t (0, 0)⟩]) w := by
  obtain ⟨⟨ho, hd⟩, hS⟩ := h
  refine ⟨⟨own_new ho hl (Below.refl _ _) (fun _ => hB), fun j r hj b' off ha h0 => ?_⟩, ⟨hS.os, hS.tape, hS.output, hS.size, ?_, hS.block⟩⟩
  · obtain ⟨g1, g2⟩ := hd j r hj b' off ha h0
    refine ⟨fun hm => ?_, g2⟩
    rw [nums_snoc, bs_append] at hm
    rcases List.mem_append.1 hm with hm | hm
    · exact g1 hm
    · have := (h1.1 j r hj b' off ha h0).2.1
      obtain ⟨q, hq, _, hqb⟩ := mem_bs.1 hm
      rw [List.mem_singleton.1 hq] at hqb
      simp [RBlk.num] at hqb
      omega
  · obtain ⟨σ, e, n⟩ := hS.ext
    refine ⟨σ ++ [(⟨b, 0, .cells c t (0, 0)⟩ : RBlk).num], by rw [nums_snoc, e, List.append_assoc], fun q hq hqp => ?_⟩
    rcases List.mem_append.1 hq with hq | hq
    · exact n q hq hqp
    · rw [List.mem_singleton.1 hq]
      exact .inl (Nat.le_trans h1.2 hb)
theorem keepB_get {s : Nat → Bool} : ∀ {H : Mem} {i k : Nat} {it : AIt}, keepB s i H = true → H[k]? = some it → s (i + k) = true → ∃ cs t, it = .cells cs t
  | [], i, k, it, _, h, _ => by simp at h
  | jt :: r, i, 0, it, hb, h, hs => by
    simp at h; subst h
    unfold keepB at hb
    rw [Bool.and_eq_true] at hb
    have h1 := hb.1
    rw [show s i = true from hs] at h1
    cases jt <;> first | exact ⟨_, _, rfl⟩ | (simp at h1)
  | jt :: r, i, k + 1, it, hb, h, hs => by
    unfold keepB at hb
    rw [Bool.and_eq_true] at hb
    exact keepB_get (H := r) (i := i + 1) (k := k) hb.2 (by simpa using h) (by rw [show i + 1 + k = i + (k + 1) by omega]; exact hs)
/-- What nobody writes stays. -/
theorem stat_keep {stat : Option (Nat → Bool)} {Hr0 : List RBlk} {H H' : Mem} {Hr Hr' : List RBlk} {w w' : World} {wr' : Nat → Bool} {ρ : Nums} (hs : Stat stat Hr0 H Hr) (hO : OwnM H Hr w) (hB' : RelB R ρ H' Hr') (hO' : OwnM H' Hr' w') (hS : Stp wr' Hr w Hr' w') (hk : keepB (stat.getD fun _ => false) 0 H' = true)
    (hblk : ∀ k p cs t, (stat.getD fun _ => false) k = true → Hr[k]? = some p → H[k]? = some (.cells cs t) → p.num.ph = false → ∀ (j : Nat) q, (nums Hr)[j]? = some q → q.ph = false → q.b = p.b → wr' j = false) : Stat stat Hr0 H' Hr' := fun k hk1 => by
  obtain ⟨p, cs, t, e1, e2, e3, e4⟩ := hs k hk1
  obtain ⟨σ, hσ, _⟩ := hS.ext
  have hn : (nums Hr')[k]? = some p.num := by rw [hσ]; exact getElem?_append_some (nums_get e2)
  obtain ⟨p', h', hn'⟩ := nums_at hn
  have hlt : k < H'.length := by rw [← hB'.1]; exact (List.getElem?_eq_some_iff.1 h').1
  have hH' := List.getElem?_eq_getElem hlt
  obtain ⟨cs', t', hc⟩ := keepB_get (i := 0) hk hH' (by rw [Nat.zero_add]; exact hk1)
  rw [hc] at hH'
  have x1 := (hO' k _ p' hH' h' (by rw [← hn']; exact e4)).2 rfl
  have x2 := hO k _ p e3 e2 e4
  have x3 := hS.block p.b x2.1 (hblk k p cs t hk1 e2 e3 e4)
  have hb : p.b = p'.b := congrArg Num.b hn'
  have hss : p.s = p'.s := congrArg Num.s hn'
  rw [← hb, x3, x2.2 rfl] at x1
  have ho := Option.some.inj x1
  have hp : p' = p := by
    cases p; cases p'
    simp only [RBlk.mk.injEq] at *
    exact ⟨hb.symm, hss.symm, ho.symm⟩
  rw [hp] at h'
  exact ⟨p, cs', t', e1, h', hH', e4⟩
/-- Only what is new was written. -/
theorem stp_none {Hr Hr' : List RBlk} {w w' : World} {n : Nat} (hl : Hr.length = n) (h : Stp (fun l => Nat.ble n l) Hr w Hr' w') : Stp (fun _ => false) Hr w Hr' w' := by
  have hw : ∀ (l : Nat) q, (nums Hr)[l]? = some q → Nat.ble n l = false := fun l q hq => by
    have h1 := (List.getElem?_eq_some_iff.1 hq).1
    simp only [nums, List.length_map] at h1
    rw [Bool.eq_false_iff]
    intro e
    have := Nat.le_of_ble_eq_true e
    omega
  obtain ⟨σ, e, m⟩ := h.ext
  refine ⟨h.os, h.tape, h.output, h.size, ⟨σ, e, fun q hq hqp => .inl ?_⟩, fun k hk _ => h.block k hk fun l q hl _ _ => hw l q hl⟩
  rcases m q hq hqp with h1 | ⟨l, p, h1, _, _, h2⟩
  · exact h1
  · rw [hw l p h1] at h2; cases h2
section
variable {E : Env} (hE : EnvOK E) {call : CallF} (hC : CallOK E call)
include hE hC
theorem head_sound (h0 : Nat) (stat : Option (Nat → Bool)) (ops : List Oper) : ∀ (ord : List (Mv × Nat)) (st : ASt) (K : ASt → Prop), headP E call h0 stat ops ord st K → ∃ st', K st' ∧ st'.m.wr = st.m.wr ∧ ∀ {D : List Deferred} a Hr, RelSt E.rows D st a Hr → ∀ (Hr0 : List RBlk) (W : World) (L : Fw.Post) (S : Fw.WP), Fw.Stable S → (∀ w, S w → Cl E.rows st.m.wr Hr0 W st.m.H Hr w) → Hr0.length = h0 → Stat stat Hr0 st.m.H Hr →
    (∀ a' Hr' S', RelSt E.rows D st' a' Hr' → (∀ w, S' w → Cl E.rows st.m.wr Hr0 W st'.m.H Hr' w) → L a' S') → Fw.wpG E.P ops.toArray (StP E.rows stat Hr0) L (ord.map (·.1)) a S
  | [], st, K, h => ⟨st, h, rfl, fun a Hr hR Hr0 W L S hSS hSC hl hs hL => hL a Hr S hR hSC⟩
  | (.q i, _) :: r, st, K, h => by
    unfold headP at h
    split at h
    · rename_i o ho
      cases hm : isMake o <;> simp only [hm, cond_true, cond_false] at h
      obtain ⟨st1, st2, hk, h1, h2, h3, h4⟩ := step_sound hE hC h
      obtain ⟨st', hK, hlo, hl⟩ := head_sound h0 stat ops r st2 K hk
      rcases h4 with ⟨hw, hd⟩ | ⟨_, hw, rfl⟩
      · refine ⟨st', hK, hlo.trans (hd.lo.trans h2), fun a Hr hR Hr0 W L S hSS hSC hlen hs hL => ?_⟩
        rcases hd with ⟨v, ds, rfl, hd⟩ | ⟨hm', _⟩ | ⟨hp, _⟩
        · obtain ⟨V, hv, hat⟩ := hd a Hr (h1 a Hr hR)
          have hnext := hl _ _ ((h1 a Hr hR).put o.dst hv ds) Hr0 W L S hSS (by rw [← h2] at hSC; rw [← h3] at hSC; exact hSC) hlen (by show Stat stat Hr0 st1.m.H Hr; rw [h3]; exact hs) (fun a' Hr' S' hR' hS' => hL a' Hr' S' hR' (by rw [← h2]; exact hS'))
          refine ⟨o, at_list ho, V, .inl ⟨hw a Hr hR, fun w hc => ?_⟩, ?_⟩
          · have hc := (hc.resolve_left (by simp)).2
            exact hat w (by rw [h3]; exact (hSC w hc).1)
          · exact hnext
        · rw [hm] at hm'; cases hm'
        · cases hp
      · refine ⟨st', hK, hlo.trans h2, fun a Hr hR Hr0 W L S hSS hSC hlen hs hL => ?_⟩
        have hnext := hl _ _ ((h1 a Hr hR).put o.dst (v := undefA) (V := undef) .raw st1.m.ds) Hr0 W L S hSS (by rw [← h2] at hSC; rw [← h3] at hSC; exact hSC) hlen (by show Stat stat Hr0 st1.m.H Hr; rw [h3]; exact hs) (fun a' Hr' S' hR' hS' => hL a' Hr' S' hR' (by rw [← h2]; exact hS'))
        refine ⟨o, at_list ho, undef, .inr ⟨hw a Hr hR, rfl⟩, ?_⟩
        exact hnext
    · exact h.elim
  | (.g i, _) :: r, st, K, h => by
    unfold headP at h
    split at h
    · rename_i o ho
      cases hm : isMake o <;> simp only [hm, cond_true, cond_false] at h
      · obtain ⟨st1, h1, h2, h3, h4⟩ := guard_sound (R := E.rows) h
        rcases h4 with ⟨h, hw⟩ | ⟨_, h5, hw⟩
        rotate_left
        · obtain ⟨st', hK, hlo, hl⟩ := head_sound h0 stat ops r _ K h5
          refine ⟨st', hK, hlo.trans h2, fun a Hr hR Hr0 W L S hSS hSC hlen hs hL => ?_⟩
          have hnext := hl _ _ ((h1 a Hr hR).put o.dst (v := undefA) (V := undef) .raw st1.m.ds) Hr0 W L S hSS (by rw [← h2] at hSC; rw [← h3] at hSC; exact hSC) hlen (by show Stat stat Hr0 st1.m.H Hr; rw [h3]; exact hs) (fun a' Hr' S' hR' hS' => hL a' Hr' S' hR' (by rw [← h2]; exact hS'))
          exact ⟨o, at_list ho, .inr ⟨hw a Hr hR, hnext⟩⟩
        unfold genP at h
        split at h
        · rename_i g xs ts hop
          split at h
          · rename_i f cap us hg hvs
            obtain ⟨v, m', hk, hwr, hen, hcall⟩ := callG_ok hE hC f (us ++ cap) _ _ h
            cases hkb : keepB (stat.getD fun _ => false) 0 m'.H <;> simp only [hkb, cond_true, cond_false] at hk
            obtain ⟨st', hK, hlo, hl⟩ := head_sound h0 stat ops r _ K hk
            refine ⟨st', hK, hlo.trans h2, @fun D a Hr hR Hr0 W L S hSS hSC hlen hs hL => ?_⟩
            have hwA := hw a Hr hR
            rw [← h2] at hSC hL
            rw [← h3] at hSC hs
            obtain ⟨tv, rfl, ht, hB, hn⟩ := h1 a Hr hR
            refine ⟨o, at_list ho, .inl ⟨hwA, fun u S' => ∃ Hr', RelSt E.rows D ⟨putA st1.tl o.dst v, ⟨m'.H, m'.ds, st1.m.wr⟩⟩ ((⟨tv.toArray, D⟩ : Act).put o.dst u) Hr' ∧ Stat stat Hr0 m'.H Hr' ∧ S' = fun w => S w ∧ Cl E.rows st1.m.wr Hr0 W m'.H Hr' w, fun w hc => ?_, fun u S' ⟨Hr', hR', hst', hS'⟩ => ?_⟩⟩
            · have e1 := evO_sound (D := D) ht _ _ hg
              generalize hge : (⟨tv.toArray, D⟩ : Act).eval g = gv at e1
              cases e1 with | func hcaps =>
              rename_i caps
              have e2 := evs_sound (evO_sound (D := D) ht) hvs
              have hcl := hSC w hc
              have hc1 := hcall Hr w _ (e2.append hcaps) hB hn hcl.1
              obtain ⟨dst, op, ty, pos, aft, gd⟩ := o
              subst hop
              have hrun := run_call (P := E.P) hen (g := g) (xs := xs) (ts := ts) hge (dst := dst) (ty := ty) (pos := pos) (aft := aft) (gd := gd) w
              unfold atR Oper.wp
              rw [hrun]
              simp only [Oper.upon]
              have hA : (xs.map (⟨tv.toArray, D⟩ : Act).eval ++ caps.toArray) = (xs.toList.map (⟨tv.toArray, D⟩ : Act).eval ++ caps).toArray := by
                apply Array.toList_inj.1; simp
              rw [hA]
              refine hc1.mono ?_
              rintro e w' ⟨V, Hr', rfl, hv, hB', hn', hO', hS⟩
              have hS := stp_none hB.len hS
              obtain ⟨σ, hσ, _⟩ := hS.ext
              obtain ⟨vs', e3, hv'⟩ := putA_rel (R := E.rows) (D := D) (ρ := nums Hr') (by rw [hσ]; exact ht.grow σ) dst hv
              exact ⟨V, rfl, _, ⟨Hr', ⟨vs', e3, hv', hB', hn'⟩, stat_keep hs hcl.1.1 hB' hO'.1 hS hkb (fun _ _ _ _ _ _ _ _ _ _ _ _ _ => rfl), rfl⟩, hSS _ _ hc ⟨hS.os, hS.tape, hS.output, hS.size, fun k hk => hS.block k hk (fun _ _ _ _ _ => rfl)⟩, hO', hcl.2.trans (hS.mono (fun l hl => by cases hl))⟩
            · subst hS'
              have hst : Fw.Stable (fun w => S w ∧ Cl E.rows st1.m.wr Hr0 W m'.H Hr' w) := fun w w' ⟨x, y⟩ hbb => ⟨hSS _ _ x hbb, cl_stable _ _ y hbb⟩
              exact ⟨hst, fun w hw => hw.1, hl _ _ hR' Hr0 W L _ hst (fun w hw => hw.2) hlen hst' hL⟩
          · exact h.elim
        · exact h.elim
      obtain ⟨st1, h1, h2, h3, h4⟩ := guard_sound (R := E.rows) h
      rcases h4 with ⟨h5, hw⟩ | ⟨_, h5, hw⟩
      · obtain ⟨st2, hk, hd⟩ := doP_sound hE hC h5
        obtain ⟨st', hK, hlo, hl⟩ := head_sound h0 stat ops r st2 K hk
        refine ⟨st', hK, hlo.trans (hd.lo.trans h2), fun a Hr hR Hr0 W L S hSS hSC hlen hs hL => ?_⟩
        refine ⟨o, at_list ho, .inl ⟨hw a Hr hR, ?_⟩⟩
        have hSC1 : ∀ w, S w → Cl E.rows st1.m.wr Hr0 W st1.m.H Hr w := by rw [h2, h3]; exact hSC
        rcases hd with ⟨v, ds, rfl, hd⟩ | ⟨_, v, it, mk, rfl, hd⟩ | ⟨hp, _⟩
        · obtain ⟨V, hv, hat⟩ := hd a Hr (h1 a Hr hR)
          have hnext := hl _ _ ((h1 a Hr hR).put o.dst hv ds) Hr0 W L S hSS hSC1 hlen (by show Stat stat Hr0 st1.m.H Hr; rw [h3]; exact hs) (fun a' Hr' S' hR' hS' => hL a' Hr' S' hR' (by rw [← h2]; exact hS'))
          refine ⟨fun u S' => u = V ∧ S' = S, fun w hc => atR_mono (hat w (hSC1 w hc).1) fun u w' ⟨hu, hb⟩ => ⟨S, ⟨hu, rfl⟩, hSS _ _ hc hb⟩, fun u S' ⟨hu, hS'⟩ => ?_⟩
          subst hu; subst hS'
          exact ⟨hSS, fun _ h => h, hnext⟩
        · obtain ⟨ob, hc1, hv, hat⟩ := hd a Hr (h1 a Hr hR)
          refine ⟨fun u S' => ∃ b w0, S w0 ∧ w0.heap.size ≤ b ∧ u = mk b ∧ S' = fun w => S w ∧ Cl E.rows st1.m.wr Hr0 W (st1.m.H ++ [it]) (Hr ++ [⟨b, 0, ob⟩]) w, fun w hc => atR_mono (hat w (hSC1 w hc).1) fun u w' ⟨hu, hw'⟩ => ?_, fun u S' ⟨b, w0, hw0, hb, hu, hS'⟩ => ?_⟩
          · subst hw'
            obtain ⟨vs, rfl, ht, hB, hn⟩ := h1 a Hr hR
            have hcl := hSC1 w hc
            have hb := World.below_alloc w ob
            have hD := drop_one (nums_snoc Hr ⟨w.heap.size, 0, ob⟩)
            have hS : Stp st1.m.wr Hr w (Hr ++ [⟨w.heap.size, 0, ob⟩]) (w.alloc ob) := ⟨hb.os, hb.tape, hb.output, hb.size, ⟨_, hD.1, fun q hq _ => by rw [hD.2] at hq; rw [List.mem_singleton.1 hq]; exact .inl (Nat.le_refl _)⟩, fun k hk _ => hb.block k hk⟩
            exact ⟨_, ⟨w.heap.size, w, hc, Nat.le_refl _, hu, rfl⟩, hSS _ _ hc hb, ⟨own_new hcl.1.1 hB.len hb (fun _ => heap_alloc_new w _), hS.rd hcl.1.2⟩, hcl.2.trans hS⟩
          · subst hu; subst hS'
            obtain ⟨vs, rfl, ht, hB, hn⟩ := h1 a Hr hR
            have hq := nums_snoc Hr ⟨b, 0, ob⟩
            obtain ⟨vs', e, hv'⟩ := putA_rel (ht.grow [(⟨b, 0, ob⟩ : RBlk).num]) o.dst (hv _)
            have hown := (hSC1 w0 hw0).1.1
            refine ⟨fun w w' ⟨x, y⟩ hbb => ⟨hSS _ _ x hbb, cl_stable _ _ y hbb⟩, fun w hw => hw.1, ?_⟩
            exact hl _ (Hr ++ [⟨b, 0, ob⟩]) ⟨vs', e, by rw [hq]; exact hv', by rw [hq]; exact (hB.grow _).snoc ((hc1 _).grow _), apart_new hn hown hB.len (fun _ => hb)⟩ Hr0 W L _ (fun w w' ⟨x, y⟩ hbb => ⟨hSS _ _ x hbb, cl_stable _ _ y hbb⟩) (fun w hw => hw.2) hlen ((show Stat stat Hr0 st1.m.H Hr by rw [h3]; exact hs).snoc _ _) (fun a' Hr' S' hR' hS' => hL a' Hr' S' hR' (by rw [← h2]; exact hS'))
        · cases hp
      · obtain ⟨st', hK, hlo, hl⟩ := head_sound h0 stat ops r _ K h5
        refine ⟨st', hK, hlo.trans h2, fun a Hr hR Hr0 W L S hSS hSC hlen hs hL => ?_⟩
        have hnext := hl _ _ ((h1 a Hr hR).put o.dst (v := undefA) (V := undef) .raw st1.m.ds) Hr0 W L S hSS (by rw [← h2] at hSC; rw [← h3] at hSC; exact hSC) hlen (by show Stat stat Hr0 st1.m.H Hr; rw [h3]; exact hs) (fun a' Hr' S' hR' hS' => hL a' Hr' S' hR' (by rw [← h2]; exact hS'))
        exact ⟨o, at_list ho, .inr ⟨hw a Hr hR, hnext⟩⟩
    · exact h.elim
  | (.p i, _) :: r, st, K, h => by
    unfold headP at h
    split at h
    · rename_i o ho
      obtain ⟨st1, h1, h2, h3, h4⟩ := guard_sound (R := E.rows) h
      rcases h4 with ⟨h5, hw⟩ | ⟨_, h5, hw⟩
      · unfold calmP at h5
        split at h5
        · rename_i v cs hop
          obtain ⟨hcs, hk⟩ := allT_spec h5
          obtain ⟨st', hK, hlo, hl⟩ := head_sound h0 stat ops r _ K hk
          refine ⟨st', hK, hlo.trans h2, @fun D a Hr hR Hr0 W L S hSS hSC hlen hs hL => ?_⟩
          have hR1 := h1 a Hr hR
          obtain ⟨tv, rfl, ht, hB, hn⟩ := hR1
          obtain ⟨V, hv, hx⟩ := opA_sound (ρ := nums Hr) (H := []) (Hr := []) hE.rows hE.eqs ⟨rfl, fun l it p h => by simp at h⟩ (fun _ _ e => by simp at e) (evO_sound (D := D) ht) hop hcs
          have hnext := hl _ _ (RelSt.put ⟨tv, rfl, ht, hB, hn⟩ o.dst hv st1.m.ds) Hr0 W L S hSS (by rw [← h2] at hSC; rw [← h3] at hSC; exact hSC) hlen (by show Stat stat Hr0 st1.m.H Hr; rw [h3]; exact hs) (fun a' Hr' S' hR' hS' => hL a' Hr' S' hR' (by rw [← h2]; exact hS'))
          refine ⟨o, at_list ho, V, .inl ⟨hw _ Hr hR, fun w hc => ?_⟩, hnext⟩
          have hc := (hc.resolve_right (by simp)).2
          exact at1_run (hx w ⟨OwnM.nil _, hc.2.sub (by simp [nums, bs])⟩)
        · split at h5
          · rename_i t x hop
            split at h5
            · rename_i l off hx
              cases hst : (stat.getD fun _ => false) l <;> simp only [hst, cond_true, cond_false] at h5
              split at h5
              · rename_i v hv
                obtain ⟨st', hK, hlo, hl⟩ := head_sound h0 stat ops r _ K h5
                refine ⟨st', hK, hlo.trans h2, @fun D a Hr hR Hr0 W L S hSS hSC hlen hs hL => ?_⟩
                have hR1 := h1 a Hr hR
                obtain ⟨tv, rfl, ht, hB, hn⟩ := hR1
                unfold loadA at hv
                simp only at hv
                split at hv
                · rename_i cs ty' hl'
                  obtain ⟨b, s0, Cs, e1, e2⟩ := hB.get hl'
                  obtain ⟨V, e3, e4⟩ := load_sound (P := E.P) hv e2
                  have hp := evO_sound (D := D) ht _ _ hx
                  generalize hge : (⟨tv.toArray, D⟩ : Act).eval x = pv at hp
                  cases hp with | ptr hb' =>
                  rw [nums_get e1] at hb'
                  obtain rfl := Option.some.inj hb'
                  have hnext := hl _ _ (RelSt.put ⟨tv, rfl, ht, hB, hn⟩ o.dst e3 st1.m.ds) Hr0 W L S hSS (by rw [← h2] at hSC; rw [← h3] at hSC; exact hSC) hlen (by show Stat stat Hr0 st1.m.H Hr; rw [h3]; exact hs) (fun a' Hr' S' hR' hS' => hL a' Hr' S' hR' (by rw [← h2]; exact hS'))
                  refine ⟨o, at_list ho, V, .inl ⟨hw _ Hr hR, fun w hc => ?_⟩, hnext⟩
                  have hc := (hc.resolve_right (by simp)).2
                  obtain ⟨p, cs', t', x1, x2, x3, _⟩ := hs l hst
                  rw [e1] at x2; cases x2
                  have hblk : Blk w b Cs.toArray ty' := hc.1 l _ hst x1
                  refine at1_run ?_
                  obtain ⟨dst, op, ty, pos, aft, gd⟩ := o
                  subst hop
                  have := e4 w _ _ hblk
                  simp [execOp, hge, Instr.loadAt, Instr.sureAddr, RBlk.num, this]
                · cases hv
              · exact h5.elim
            · exact h5.elim
          · exact h5.elim
      · obtain ⟨st', hK, hlo, hl⟩ := head_sound h0 stat ops r _ K h5
        refine ⟨st', hK, hlo.trans h2, fun a Hr hR Hr0 W L S hSS hSC hlen hs hL => ?_⟩
        have hnext := hl _ _ ((h1 a Hr hR).put o.dst (v := undefA) (V := undef) .raw st1.m.ds) Hr0 W L S hSS (by rw [← h2] at hSC; rw [← h3] at hSC; exact hSC) hlen (by show Stat stat Hr0 st1.m.H Hr; rw [h3]; exact hs) (fun a' Hr' S' hR' hS' => hL a' Hr' S' hR' (by rw [← h2]; exact hS'))
        exact ⟨o, at_list ho, undef, .inr ⟨hw a Hr hR, rfl⟩, hnext⟩
    · exact h.elim
  | (.c i, _) :: r, st, K, h => by
    unfold headP at h
    split at h
    · rename_i o ho
      cases hgd : o.guard.isNone <;> simp only [hgd, cond_true, cond_false] at h
      have hg0 : o.guard = none := by simpa using hgd
      split at h
      · -- anything
        obtain ⟨st2, hk, hd⟩ := doP_sound hE hC h
        obtain ⟨st', hK, hlo, hl⟩ := head_sound h0 none ops r _ K hk
        refine ⟨st', hK, hlo, @fun D a Hr hR Hr0 W L S hSS hSC hlen hs hL => ?_⟩
        have hs2 : ∀ H Hr', Stat none Hr0 H Hr' := fun H Hr' l hl => by simp at hl
        refine ⟨o, at_list ho, by simp [Region.wanted, hg0], fun u S' => ∃ Hr', RelSt E.rows D ⟨st2.tl, ⟨st2.m.H, st2.m.ds, st.m.wr⟩⟩ (a.put o.dst u) Hr' ∧ S' = Cl E.rows st.m.wr Hr0 W st2.m.H Hr', fun w hc => ?_, fun u S' ⟨Hr', hR', hS'⟩ => ?_⟩
        · refine atR_mono (did_any (st := ⟨st.tl, ⟨st.m.H, st.m.ds, fun l => st.m.wr l || Nat.ble h0 l⟩⟩) hd hR (hSC w hc).1) fun u w' ⟨Hr', x1, x2, x3⟩ => ?_
          exact ⟨_, ⟨Hr', x1, rfl⟩, x2, (hSC w hc).2.trans' (by rw [hlen]; exact x3)⟩
        · subst hS'
          exact ⟨cl_stable, cl_st (hs2 _ _), hl _ _ hR' Hr0 W L _ cl_stable (fun _ h => h) hlen (hs2 _ _) hL⟩
      · rename_i s
        split at h
        · rename_i l cs hop
          split at h
          · rename_i cs0 t hcs0
            cases hle2 : ((st.m.wr l || Nat.ble h0 l) && !s l) <;> simp only [hle2, cond_true, cond_false] at h
            rw [Bool.and_eq_true] at hle2
            have hns : s l = false := by simpa using hle2.2
            obtain ⟨st', hK, hlo, hl⟩ := head_sound h0 (some s) ops r _ K h
            refine ⟨st', hK, hlo, @fun D a Hr hR Hr0 W L S hSS hSC hlen hs hL => ?_⟩
            obtain ⟨tv, rfl, ht, hB, hn⟩ := hR
            obtain ⟨b, s0, Cs, Cs', ty, cs1, g1, g2, g3, g4, _, g5⟩ := opA_sound hE.rows hE.eqs hB (fun _ _ e => nums_get e) (evO_sound (D := D) ht) hop (by simp [Res.cs])
            rw [hcs0] at g1; cases g1
            have hph := hB.cph hcs0 g2
            have hnum : (⟨b, s0, .cells Cs'.toArray t (0, 0)⟩ : RBlk).num = (⟨b, s0, .cells Cs t (0, 0)⟩ : RBlk).num := by simp [RBlk.num, cntO, g4]
            have hN : nums (Hr.set l ⟨b, s0, .cells Cs'.toArray t (0, 0)⟩) = nums Hr := nums_set g2 (by simp [RBlk.num, cntO, g4])
            have hD := drop_all hN
            obtain ⟨vs', e, hv⟩ := putA_rel (D := D) (v := undefA) (V := undef) ht o.dst .raw
            have hstat : Stat (some s) Hr0 ((dropR l st.m.H).set l (.cells cs t)) (Hr.set l ⟨b, s0, .cells Cs'.toArray t (0, 0)⟩) := fun k hk => by
              obtain ⟨p, c1, t1, x1, x2, x3, x4⟩ := hs k hk
              have hkl : l ≠ k := fun e => by
                subst e
                have hk : s l = true := hk
                rw [hns] at hk; cases hk
              refine ⟨p, c1, t1, x1, by rw [List.getElem?_set_ne hkl]; exact x2, ?_, x4⟩
              rw [List.getElem?_set_ne hkl]
              unfold dropR dropI
              rw [List.getElem?_mapIdx, x3]
              have e1 : Nat.beq ((AIt.cells c1 t1).owner k) l = false := by
                rw [Bool.eq_false_iff]; intro e; exact hkl (Nat.eq_of_beq_eq_true e).symm
              simp [e1]
            have hrel : RelSt E.rows D ⟨putA st.tl o.dst undefA, ⟨(dropR l st.m.H).set l (.cells cs t), st.m.ds, st.m.wr⟩⟩ ((⟨tv.toArray, D⟩ : Act).put o.dst undef) (Hr.set l ⟨b, s0, .cells Cs'.toArray t (0, 0)⟩) :=
              ⟨vs', e, by rw [hN]; exact hv, by rw [hN]; exact (hB.dropI _).set (.cells g3 (by rw [hnum]; exact hph)), (apart_write (p' := ⟨b, s0, .cells Cs'.toArray t (0, 0)⟩) hn hcs0 rfl rfl g2 hph rfl).1⟩
            have hnext := hl _ _ hrel Hr0 W L _ cl_stable (fun _ h => h) hlen hstat hL
            refine ⟨o, at_list ho, by simp [Region.wanted, hg0], fun u S' => u = undef ∧ S' = Cl E.rows st.m.wr Hr0 W ((dropR l st.m.H).set l (.cells cs t)) (Hr.set l ⟨b, s0, .cells Cs'.toArray t (0, 0)⟩), fun w hc => ?_, fun u S' ⟨hu, hS'⟩ => ?_⟩
            · have hc := hSC w hc
              obtain ⟨w', r1, r2, r3⟩ := g5 w hc.1
              have hS : Stp (fun l => st.m.wr l || Nat.ble Hr0.length l) Hr w (Hr.set l ⟨b, s0, .cells Cs'.toArray t (0, 0)⟩) w' := stp_write g2 hph (by rw [hlen]; exact hle2.1) (same_grown r2) hD.1 (by rw [hD.2]; simp)
              exact atR_skip r1 ⟨_, ⟨rfl, rfl⟩, ⟨own_write hc.1.1 hn hB.len hcs0 rfl rfl g2 hph rfl (fun k _ hk => r2.block k hk) (by rw [r2.size]; exact Nat.le_refl _) r3, hS.rd hc.1.2⟩, hc.2.trans' hS⟩
            · subst hu; subst hS'
              exact ⟨cl_stable, cl_st hstat, hnext⟩
          · exact h.elim
        · rename_i l n n' sz F t cs hop
          split at h
          · rename_i n0 s00 F00 e00 hrow
            cases hle2 : (st.m.wr l || Nat.ble h0 l) <;> simp only [hle2, cond_true, cond_false] at h
            obtain ⟨st2, hk, hd⟩ := resP_sound hE (st := ⟨st.tl, ⟨st.m.H, st.m.ds, fun j => Nat.beq j l⟩⟩) hop h
            cases hkb : keepB s 0 st2.m.H <;> simp only [hkb, cond_true, cond_false] at hk
            obtain ⟨st', hK, hlo, hl⟩ := head_sound h0 (some s) ops r _ K hk
            refine ⟨st', hK, hlo, @fun D a Hr hR Hr0 W L S hSS hSC hlen hs hL => ?_⟩
            have hR0 := hR
            obtain ⟨tv, rfl, ht, hB, hn⟩ := hR0
            refine ⟨o, at_list ho, by simp [Region.wanted, hg0], fun u S' => ∃ Hr', RelSt E.rows D ⟨st2.tl, ⟨st2.m.H, st2.m.ds, st.m.wr⟩⟩ ((⟨tv.toArray, D⟩ : Act).put o.dst u) Hr' ∧ Stat (some s) Hr0 st2.m.H Hr' ∧ S' = Cl E.rows st.m.wr Hr0 W st2.m.H Hr', fun w hc => ?_, fun u S' ⟨Hr', hR', hst', hS'⟩ => ?_⟩
            · refine atR_mono (did_any (st := ⟨st.tl, ⟨st.m.H, st.m.ds, fun j => Nat.beq j l⟩⟩) hd hR (hSC w hc).1) fun u w' ⟨Hr', x1, x2, x3⟩ => ?_
              have x1' := x1
              obtain ⟨_, _, _, x4, _⟩ := x1'
              exact ⟨_, ⟨Hr', x1, stat_keep hs (hSC w hc).1.1 x4 x2.1 x3 hkb (by
                intro k p cs1 t1 hk1 e2 e3 e4 j q hq hqp hb
                cases hj : Nat.beq j l
                · exact hj
                · obtain rfl := Nat.eq_of_beq_eq_true hj
                  obtain ⟨p2, h2, rfl⟩ := nums_at hq
                  have hne : j ≠ k := fun e => by
                    subst e
                    rw [hrow] at e3
                    cases e3
                  exact absurd (hn j k _ _ p2 p hne hrow e3 rfl rfl h2 e2 hqp e4 hb) hne), rfl⟩, x2, (hSC w hc).2.trans' (x3.mono (fun j hj => by
                have e := Nat.eq_of_beq_eq_true hj
                subst e
                rw [hlen]
                exact hle2))⟩
            · subst hS'
              exact ⟨cl_stable, cl_st hst', hl _ _ hR' Hr0 W L _ cl_stable (fun _ h => h) hlen hst' hL⟩
          · exact h.elim
        · rename_i n sz F t cs hop
          obtain ⟨st2, hk, hd⟩ := resP_sound hE (st := ⟨st.tl, ⟨st.m.H, st.m.ds, fun _ => false⟩⟩) hop h
          cases hkb : keepB s 0 st2.m.H <;> simp only [hkb, cond_true, cond_false] at hk
          obtain ⟨st', hK, hlo, hl⟩ := head_sound h0 (some s) ops r _ K hk
          refine ⟨st', hK, hlo, @fun D a Hr hR Hr0 W L S hSS hSC hlen hs hL => ?_⟩
          have hR0 := hR
          obtain ⟨tv, rfl, ht, hB, hn⟩ := hR0
          refine ⟨o, at_list ho, by simp [Region.wanted, hg0], fun u S' => ∃ Hr', RelSt E.rows D ⟨st2.tl, ⟨st2.m.H, st2.m.ds, st.m.wr⟩⟩ ((⟨tv.toArray, D⟩ : Act).put o.dst u) Hr' ∧ Stat (some s) Hr0 st2.m.H Hr' ∧ S' = Cl E.rows st.m.wr Hr0 W st2.m.H Hr', fun w hc => ?_, fun u S' ⟨Hr', hR', hst', hS'⟩ => ?_⟩
          · refine atR_mono (did_any (st := ⟨st.tl, ⟨st.m.H, st.m.ds, fun _ => false⟩⟩) hd hR (hSC w hc).1) fun u w' ⟨Hr', x1, x2, x3⟩ => ?_
            have x1' := x1
            obtain ⟨_, _, _, x4, _⟩ := x1'
            exact ⟨_, ⟨Hr', x1, stat_keep hs (hSC w hc).1.1 x4 x2.1 x3 hkb (by
              intro k p cs1 t1 hk1 e2 e3 e4 j q hq hqp hb
              rfl), rfl⟩, x2, (hSC w hc).2.trans' (x3.mono (fun j hj => by
              cases hj))⟩
          · subst hS'
            exact ⟨cl_stable, cl_st hst', hl _ _ hR' Hr0 W L _ cl_stable (fun _ h => h) hlen hst' hL⟩
        · rename_i l F cs hop
          split at h
          · rename_i n0 s00 F00 e00 hrow
            cases hle2 : (st.m.wr l || Nat.ble h0 l) <;> simp only [hle2, cond_true, cond_false] at h
            obtain ⟨st2, hk, hd⟩ := resP_sound hE (st := ⟨st.tl, ⟨st.m.H, st.m.ds, fun j => Nat.beq j l⟩⟩) hop h
            cases hkb : keepB s 0 st2.m.H <;> simp only [hkb, cond_true, cond_false] at hk
            obtain ⟨st', hK, hlo, hl⟩ := head_sound h0 (some s) ops r _ K hk
            refine ⟨st', hK, hlo, @fun D a Hr hR Hr0 W L S hSS hSC hlen hs hL => ?_⟩
            have hR0 := hR
            obtain ⟨tv, rfl, ht, hB, hn⟩ := hR0
            refine ⟨o, at_list ho, by simp [Region.wanted, hg0], fun u S' => ∃ Hr', RelSt E.rows D ⟨st2.tl, ⟨st2.m.H, st2.m.ds, st.m.wr⟩⟩ ((⟨tv.toArray, D⟩ : Act).put o.dst u) Hr' ∧ Stat (some s) Hr0 st2.m.H Hr' ∧ S' = Cl E.rows st.m.wr Hr0 W st2.m.H Hr', fun w hc => ?_, fun u S' ⟨Hr', hR', hst', hS'⟩ => ?_⟩
            · refine atR_mono (did_any (st := ⟨st.tl, ⟨st.m.H, st.m.ds, fun j => Nat.beq j l⟩⟩) hd hR (hSC w hc).1) fun u w' ⟨Hr', x1, x2, x3⟩ => ?_
              have x1' := x1
              obtain ⟨_, _, _, x4, _⟩ := x1'
              exact ⟨_, ⟨Hr', x1, stat_keep hs (hSC w hc).1.1 x4 x2.1 x3 hkb (by
                intro k p cs1 t1 hk1 e2 e3 e4 j q hq hqp hb
                cases hj : Nat.beq j l
                · exact hj
                · obtain rfl := Nat.eq_of_beq_eq_true hj
                  obtain ⟨p2, h2, rfl⟩ := nums_at hq
                  have hne : j ≠ k := fun e => by
                    subst e
                    rw [hrow] at e3
                    cases e3
                  exact absurd (hn j k _ _ p2 p hne hrow e3 rfl rfl h2 e2 hqp e4 hb) hne), rfl⟩, x2, (hSC w hc).2.trans' (x3.mono (fun j hj => by
                have e := Nat.eq_of_beq_eq_true hj
                subst e
                rw [hlen]
                exact hle2))⟩
            · subst hS'
              exact ⟨cl_stable, cl_st hst', hl _ _ hR' Hr0 W L _ cl_stable (fun _ h => h) hlen hst' hL⟩
          · exact h.elim
        · exact h.elim
    · exact h.elim
  | (.gg i j, _) :: r, st, K, h => by
    unfold headP at h
    split at h
    · rename_i o1 o2 ho1 ho2
      cases hm : (o1.guard.isNone && o2.guard.isNone) <;> simp only [hm, cond_true, cond_false] at h
      rw [Bool.and_eq_true] at hm
      split at h
      · rename_i c1 t1 c2 t2 e1 e2
        obtain ⟨st', hK, hlo, hl⟩ := head_sound h0 stat ops r _ K h
        refine ⟨st', hK, hlo, @fun D a Hr hR Hr0 W L S hSS hSC hlen hs hL => ?_⟩
        obtain ⟨tv, rfl, ht, hB, hn⟩ := hR
        obtain ⟨C1, r1, x1⟩ := opA_sound hE.rows hE.eqs hB (fun _ _ e => nums_get e) (evO_sound (D := D) ht) e1 (by simp [Res.cs])
        obtain ⟨C2, r2, x2⟩ := opA_sound hE.rows hE.eqs hB (fun _ _ e => nums_get e) (evO_sound (D := D) ht) e2 (by simp [Res.cs])
        have g1 : o1.guard = none := by simpa using hm.1
        have g2 : o2.guard = none := by simpa using hm.2
        refine ⟨o1, o2, at_list ho1, at_list ho2, by simp [Region.wanted, g1], by simp [Region.wanted, g2], fun b => .pointer (some ⟨b, 0, none⟩), C1.toArray, t1, fun b => .pointer (some ⟨b, 0, none⟩), C2.toArray, t2, fun w hc => ?_, fun w hc => ?_, fun b1 b2 z1 z2 hne => ?_⟩
        · unfold atA atR Oper.wp
          rw [x1 w (hSC w hc).1]
          exact ⟨_, rfl, rfl, rfl⟩
        · unfold atA atR Oper.wp
          rw [x2 w (hSC w hc).1]
          exact ⟨_, rfl, rfl, rfl⟩
        · obtain ⟨w1, hw1, hz1⟩ := z1
          obtain ⟨w2, hw2, hz2⟩ := z2
          have hc1 := hSC w1 hw1
          have hc2 := hSC w2 hw2
          have hlen' := hB.len
          have hf1 : ∀ q ∈ Hr, q.num.ph = false → q.b ≠ b1 := fun q hq hqp => by have := mem_lt hc1.1.1 hlen' q hq hqp; omega
          have hf2 : ∀ q ∈ Hr, q.num.ph = false → q.b ≠ b2 := fun q hq hqp => by have := mem_lt hc2.1.1 hlen' q hq hqp; omega
          have hq1 := nums_snoc Hr ⟨b1, 0, .cells C1.toArray t1 (0, 0)⟩
          have hq2 := nums_snoc (Hr ++ [⟨b1, 0, .cells C1.toArray t1 (0, 0)⟩]) ⟨b2, 0, .cells C2.toArray t2 (0, 0)⟩
          have hnl : (nums Hr).length = st.m.H.length := by simp [nums, hlen']
          obtain ⟨vs1, e3, hv1⟩ := putA_rel (D := D) (ht.grow [(⟨b1, 0, .cells C1.toArray t1 (0, 0)⟩ : RBlk).num]) o1.dst (v := .ptr st.m.H.length 0) (V := .pointer (some ⟨b1, 0, none⟩)) (.ptr (q := (⟨b1, 0, .cells C1.toArray t1 (0, 0)⟩ : RBlk).num) (by rw [← hnl]; simp))
          obtain ⟨vs2, e4, hv2⟩ := putA_rel (D := D) (hv1.grow [(⟨b2, 0, .cells C2.toArray t2 (0, 0)⟩ : RBlk).num]) o2.dst (v := .ptr (st.m.H.length + 1) 0) (V := .pointer (some ⟨b2, 0, none⟩)) (.ptr (q := (⟨b2, 0, .cells C2.toArray t2 (0, 0)⟩ : RBlk).num) (by rw [← hnl]; simp))
          rw [e3, e4]
          have hB1 : RelB E.rows (nums Hr ++ [(⟨b1, 0, .cells C1.toArray t1 (0, 0)⟩ : RBlk).num]) (st.m.H ++ [.cells c1 t1]) (Hr ++ [⟨b1, 0, .cells C1.toArray t1 (0, 0)⟩]) := (hB.grow _).snoc (.cells (r1.grow _) rfl)
          have hB2 := (hB1.grow [(⟨b2, 0, .cells C2.toArray t2 (0, 0)⟩ : RBlk).num]).snoc (it := .cells c2 t2) (p := ⟨b2, 0, .cells C2.toArray t2 (0, 0)⟩) (.cells ((r2.grow _).grow _) rfl)
          have ha1 := apart_fresh (it := .cells c1 t1) (p := ⟨b1, 0, .cells C1.toArray t1 (0, 0)⟩) hn hlen' hf1
          have ha2 := apart_fresh (it := .cells c2 t2) (p := ⟨b2, 0, .cells C2.toArray t2 (0, 0)⟩) ha1 hB1.len (fun q hq hqp => by
            rcases List.mem_append.1 hq with hq | hq
            · exact hf2 q hq hqp
            · rw [List.mem_singleton.1 hq]; exact hne)
          have hst : Fw.Stable (Fw.With (Fw.With S b1 C1.toArray t1) b2 C2.toArray t2) := Fw.With.stable (Fw.With.stable hSS)
          refine hl _ (Hr ++ [⟨b1, 0, .cells C1.toArray t1 (0, 0)⟩] ++ [⟨b2, 0, .cells C2.toArray t2 (0, 0)⟩]) ⟨vs2, rfl, by rw [hq2, hq1]; exact hv2, by rw [hq2, hq1]; exact hB2, ha2⟩ Hr0 W L _ hst (fun w ⟨⟨y1, y2⟩, y3⟩ => ?_) hlen ((hs.snoc _ _).snoc _ _) hL
          exact cl_more hB1.len (cl_more hlen' (hSC w y1) ⟨hc1.1.2.sub (by simp [bs]), hc1.2.size⟩ hz1 y2) ⟨hc2.1.2.sub (by simp [bs]), hc2.2.size⟩ hz2 y3
      · exact h.elim
    · exact h.elim
end
end

section
variable {D : List Deferred} {R : Rws}
/-- What is claimed: all that is older, and the blocks of the labels. -/
def clm (W : World) (Hr : List RBlk) : Fv.BP := fun k => k < W.heap.size ∨ ∃ q ∈ nums Hr, q.ph = false ∧ q.b = k
theorem left_below {W : World} {Hr : List RBlk} {w w' : World} (h : Below w.heap.size w w') : Fv.Left (clm W Hr) (clm W Hr) w w' := ⟨fun b hb => .inl hb, fun k hk _ => h.block k hk, h.size⟩
theorem left_stp {wr : Nat → Bool} {W : World} {Hr Hr' : List RBlk} {w w' : World} (h : Stp wr Hr w Hr' w') : Fv.Left (clm W Hr) (clm W Hr') w w' := by
  obtain ⟨σ, e, n⟩ := h.ext
  refine ⟨fun b hb => ?_, fun k hk hn => h.block k hk fun l q hl hqp hb => absurd (.inr ⟨q, List.mem_of_getElem? hl, hqp, hb⟩) hn, h.size⟩
  rcases hb with hb | ⟨q, hq, hqp, rfl⟩
  · exact .inl (.inl hb)
  · rw [e] at hq
    rcases List.mem_append.1 hq with hq | hq
    · exact .inl (.inr ⟨q, hq, hqp, rfl⟩)
    · rcases n q hq hqp with h1 | ⟨l, p, h1, h2, h3, _⟩
      · exact .inr h1
      · exact .inl (.inr ⟨p, List.mem_of_getElem? h1, h2, h3⟩)
theorem clm_lt {wr : Nat → Bool} {Hr0 : List RBlk} {W : World} {H : Mem} {Hr : List RBlk} {w : World} (hl : Hr.length = H.length) (h : Cl R wr Hr0 W H Hr w) : ∀ b, clm W Hr b → b < w.heap.size := fun b hb => by
  rcases hb with hb | ⟨q, hq, hqp, rfl⟩
  · exact Nat.lt_of_lt_of_le hb h.2.size
  · obtain ⟨p, hp, rfl⟩ := List.mem_map.1 hq
    exact mem_lt h.1.1 hl p hp hqp
theorem rel_len {st : ASt} {a : Act} {Hr : List RBlk} (h : RelSt R D st a Hr) : Hr.length = st.m.H.length := by
  obtain ⟨_, _, _, hB, _⟩ := h
  exact hB.len
section
variable {E : Env} (hE : EnvOK E) {call : CallF} (hC : CallOK E call)
include hE hC
theorem head_soundV (h0 : Nat) (stat : Option (Nat → Bool)) (ops : List Oper) : ∀ (ord : List (Mv × Nat)) (st : ASt) (K : ASt → Prop), (∀ m ∈ ord, ∀ i j, m.1 ≠ .gg i j) → headP E call h0 stat ops ord st K → ∃ st', K st' ∧ st'.m.wr = st.m.wr ∧ ∀ {D : List Deferred} a Hr, RelSt E.rows D st a Hr → ∀ (Hr0 : List RBlk) (W : World) (L : Fv.Post) (S : Fw.WP), Fw.Stable S → (∀ w, S w → Cl E.rows st.m.wr Hr0 W st.m.H Hr w) → Hr0.length = h0 → Stat stat Hr0 st.m.H Hr →
    (∀ a' Hr' S', RelSt E.rows D st' a' Hr' → (∀ w, S' w → Cl E.rows st.m.wr Hr0 W st'.m.H Hr' w) → Stat stat Hr0 st'.m.H Hr' → L a' S' (clm W Hr')) → Fv.wpV E.P ops.toArray (StP E.rows stat Hr0) L (ord.map (·.1)) a S (clm W Hr)
  | [], st, K, hgg, h => ⟨st, h, rfl, fun a Hr hR Hr0 W L S hSS hSC hl hs hL => hL a Hr S hR hSC hs⟩
  | (.q i, _) :: r, st, K, hgg, h => by
    unfold headP at h
    split at h
    · rename_i o ho
      cases hm : isMake o <;> simp only [hm, cond_true, cond_false] at h
      obtain ⟨st1, st2, hk, h1, h2, h3, h4⟩ := step_sound hE hC h
      obtain ⟨st', hK, hlo, hl⟩ := head_soundV h0 stat ops r st2 K (fun m hm => hgg m (List.mem_cons_of_mem _ hm)) hk
      rcases h4 with ⟨hw, hd⟩ | ⟨_, hw, rfl⟩
      · refine ⟨st', hK, hlo.trans (hd.lo.trans h2), fun a Hr hR Hr0 W L S hSS hSC hlen hs hL => ?_⟩
        rcases hd with ⟨v, ds, rfl, hd⟩ | ⟨hm', _⟩ | ⟨hp, _⟩
        · obtain ⟨V, hv, hat⟩ := hd a Hr (h1 a Hr hR)
          have hnext := hl _ _ ((h1 a Hr hR).put o.dst hv ds) Hr0 W L S hSS (by rw [← h2] at hSC; rw [← h3] at hSC; exact hSC) hlen (by show Stat stat Hr0 st1.m.H Hr; rw [h3]; exact hs) (fun a' Hr' S' hR' hS' hst' => hL a' Hr' S' hR' (by rw [← h2]; exact hS') hst')
          refine ⟨o, at_list ho, V, .inl ⟨hw a Hr hR, fun w hc => ?_⟩, ?_⟩
          · have hc := (hc.resolve_left (by simp)).2
            exact hat w (by rw [h3]; exact (hSC w hc).1)
          · exact hnext
        · rw [hm] at hm'; cases hm'
        · cases hp
      · refine ⟨st', hK, hlo.trans h2, fun a Hr hR Hr0 W L S hSS hSC hlen hs hL => ?_⟩
        have hnext := hl _ _ ((h1 a Hr hR).put o.dst (v := undefA) (V := undef) .raw st1.m.ds) Hr0 W L S hSS (by rw [← h2] at hSC; rw [← h3] at hSC; exact hSC) hlen (by show Stat stat Hr0 st1.m.H Hr; rw [h3]; exact hs) (fun a' Hr' S' hR' hS' hst' => hL a' Hr' S' hR' (by rw [← h2]; exact hS') hst')
        refine ⟨o, at_list ho, undef, .inr ⟨hw a Hr hR, rfl⟩, ?_⟩
        exact hnext
    · exact h.elim
  | (.g i, _) :: r, st, K, hgg, h => by
    unfold headP at h
    split at h
    · rename_i o ho
      cases hm : isMake o <;> simp only [hm, cond_true, cond_false] at h
      · obtain ⟨st1, h1, h2, h3, h4⟩ := guard_sound (R := E.rows) h
        rcases h4 with ⟨h, hw⟩ | ⟨_, h5, hw⟩
        rotate_left
        · obtain ⟨st', hK, hlo, hl⟩ := head_soundV h0 stat ops r _ K (fun m hm => hgg m (List.mem_cons_of_mem _ hm)) h5
          refine ⟨st', hK, hlo.trans h2, fun a Hr hR Hr0 W L S hSS hSC hlen hs hL => ?_⟩
          have hnext := hl _ _ ((h1 a Hr hR).put o.dst (v := undefA) (V := undef) .raw st1.m.ds) Hr0 W L S hSS (by rw [← h2] at hSC; rw [← h3] at hSC; exact hSC) hlen (by show Stat stat Hr0 st1.m.H Hr; rw [h3]; exact hs) (fun a' Hr' S' hR' hS' hst' => hL a' Hr' S' hR' (by rw [← h2]; exact hS') hst')
          exact ⟨o, at_list ho, .inr ⟨hw a Hr hR, hnext⟩⟩
        unfold genP at h
        split at h
        · rename_i g xs ts hop
          split at h
          · rename_i f cap us hg hvs
            obtain ⟨v, m', hk, hwr, hen, hcall⟩ := callG_ok hE hC f (us ++ cap) _ _ h
            cases hkb : keepB (stat.getD fun _ => false) 0 m'.H <;> simp only [hkb, cond_true, cond_false] at hk
            obtain ⟨st', hK, hlo, hl⟩ := head_soundV h0 stat ops r _ K (fun m hm => hgg m (List.mem_cons_of_mem _ hm)) hk
            refine ⟨st', hK, hlo.trans h2, @fun D a Hr hR Hr0 W L S hSS hSC hlen hs hL => ?_⟩
            have hwA := hw a Hr hR
            rw [← h2] at hSC hL
            rw [← h3] at hSC hs
            obtain ⟨tv, rfl, ht, hB, hn⟩ := h1 a Hr hR
            refine ⟨o, at_list ho, .inl ⟨hwA, fun u S' B' => ∃ Hr', RelSt E.rows D ⟨putA st1.tl o.dst v, ⟨m'.H, m'.ds, st1.m.wr⟩⟩ ((⟨tv.toArray, D⟩ : Act).put o.dst u) Hr' ∧ Stat stat Hr0 m'.H Hr' ∧ (S' = fun w => S w ∧ Cl E.rows st1.m.wr Hr0 W m'.H Hr' w) ∧ B' = clm W Hr' ∧ Hr'.length = m'.H.length, fun w hc => ?_, fun u S' B' ⟨Hr', hR', hst', hS', hB', hlH⟩ => ?_⟩⟩
            · have e1 := evO_sound (D := D) ht _ _ hg
              generalize hge : (⟨tv.toArray, D⟩ : Act).eval g = gv at e1
              cases e1 with | func hcaps =>
              rename_i caps
              have e2 := evs_sound (evO_sound (D := D) ht) hvs
              have hcl := hSC w hc
              have hc1 := hcall Hr w _ (e2.append hcaps) hB hn hcl.1
              obtain ⟨dst, op, ty, pos, aft, gd⟩ := o
              subst hop
              have hrun := run_call (P := E.P) hen (g := g) (xs := xs) (ts := ts) hge (dst := dst) (ty := ty) (pos := pos) (aft := aft) (gd := gd) w
              unfold atR Oper.wp
              rw [hrun]
              simp only [Oper.upon]
              have hA : (xs.map (⟨tv.toArray, D⟩ : Act).eval ++ caps.toArray) = (xs.toList.map (⟨tv.toArray, D⟩ : Act).eval ++ caps).toArray := by
                apply Array.toList_inj.1; simp
              rw [hA]
              refine hc1.mono ?_
              rintro e w' ⟨V, Hr', rfl, hv, hB', hn', hO', hS⟩
              have hS := stp_none hB.len hS
              obtain ⟨σ, hσ, _⟩ := hS.ext
              obtain ⟨vs', e3, hv'⟩ := putA_rel (R := E.rows) (D := D) (ρ := nums Hr') (by rw [hσ]; exact ht.grow σ) dst hv
              exact ⟨V, rfl, _, _, ⟨Hr', ⟨vs', e3, hv', hB', hn'⟩, stat_keep hs hcl.1.1 hB' hO'.1 hS hkb (fun _ _ _ _ _ _ _ _ _ _ _ _ _ => rfl), rfl, rfl, hB'.len⟩, ⟨hSS _ _ hc ⟨hS.os, hS.tape, hS.output, hS.size, fun k hk => hS.block k hk (fun _ _ _ _ _ => rfl)⟩, hO', hcl.2.trans (hS.mono (fun l hl => by cases hl))⟩, left_stp hS⟩
            · subst hS'; subst hB'
              have hst : Fw.Stable (fun w => S w ∧ Cl E.rows st1.m.wr Hr0 W m'.H Hr' w) := fun w w' ⟨x, y⟩ hbb => ⟨hSS _ _ x hbb, cl_stable _ _ y hbb⟩
              exact ⟨hst, fun w hw => hw.1, fun w hw => clm_lt hlH hw.2, hl _ _ hR' Hr0 W L _ hst (fun w hw => hw.2) hlen hst' hL⟩
          · exact h.elim
        · exact h.elim
      obtain ⟨st1, h1, h2, h3, h4⟩ := guard_sound (R := E.rows) h
      rcases h4 with ⟨h5, hw⟩ | ⟨_, h5, hw⟩
      · obtain ⟨st2, hk, hd⟩ := doP_sound hE hC h5
        obtain ⟨st', hK, hlo, hl⟩ := head_soundV h0 stat ops r st2 K (fun m hm => hgg m (List.mem_cons_of_mem _ hm)) hk
        refine ⟨st', hK, hlo.trans (hd.lo.trans h2), fun a Hr hR Hr0 W L S hSS hSC hlen hs hL => ?_⟩
        refine ⟨o, at_list ho, .inl ⟨hw a Hr hR, ?_⟩⟩
        have hSC1 : ∀ w, S w → Cl E.rows st1.m.wr Hr0 W st1.m.H Hr w := by rw [h2, h3]; exact hSC
        rcases hd with ⟨v, ds, rfl, hd⟩ | ⟨_, v, it, mk, rfl, hd⟩ | ⟨hp, _⟩
        · obtain ⟨V, hv, hat⟩ := hd a Hr (h1 a Hr hR)
          have hnext := hl _ _ ((h1 a Hr hR).put o.dst hv ds) Hr0 W L S hSS hSC1 hlen (by show Stat stat Hr0 st1.m.H Hr; rw [h3]; exact hs) (fun a' Hr' S' hR' hS' hst' => hL a' Hr' S' hR' (by rw [← h2]; exact hS') hst')
          refine ⟨fun u S' B' => u = V ∧ S' = S ∧ B' = clm W Hr, fun w hc => atR_mono (hat w (hSC1 w hc).1) fun u w' ⟨hu, hb⟩ => ⟨S, _, ⟨hu, rfl, rfl⟩, hSS _ _ hc hb, left_below hb⟩, fun u S' B' ⟨hu, hS', hB'⟩ => ?_⟩
          subst hu; subst hS'; subst hB'
          exact ⟨hSS, fun _ h => h, fun w hw => clm_lt (rel_len (h1 a Hr hR)) (hSC1 w hw), hnext⟩
        · obtain ⟨ob, hc1, hv, hat⟩ := hd a Hr (h1 a Hr hR)
          refine ⟨fun u S' B' => ∃ b w0, S w0 ∧ w0.heap.size ≤ b ∧ u = mk b ∧ (S' = fun w => S w ∧ Cl E.rows st1.m.wr Hr0 W (st1.m.H ++ [it]) (Hr ++ [⟨b, 0, ob⟩]) w) ∧ B' = clm W (Hr ++ [⟨b, 0, ob⟩]), fun w hc => atR_mono (hat w (hSC1 w hc).1) fun u w' ⟨hu, hw'⟩ => ?_, fun u S' B' ⟨b, w0, hw0, hb, hu, hS', hB'⟩ => ?_⟩
          · subst hw'
            obtain ⟨vs, rfl, ht, hB, hn⟩ := h1 a Hr hR
            have hcl := hSC1 w hc
            have hb := World.below_alloc w ob
            have hD := drop_one (nums_snoc Hr ⟨w.heap.size, 0, ob⟩)
            have hS : Stp st1.m.wr Hr w (Hr ++ [⟨w.heap.size, 0, ob⟩]) (w.alloc ob) := ⟨hb.os, hb.tape, hb.output, hb.size, ⟨_, hD.1, fun q hq _ => by rw [hD.2] at hq; rw [List.mem_singleton.1 hq]; exact .inl (Nat.le_refl _)⟩, fun k hk _ => hb.block k hk⟩
            exact ⟨_, _, ⟨w.heap.size, w, hc, Nat.le_refl _, hu, rfl, rfl⟩, ⟨hSS _ _ hc hb, ⟨own_new hcl.1.1 hB.len hb (fun _ => heap_alloc_new w _), hS.rd hcl.1.2⟩, hcl.2.trans hS⟩, left_stp hS⟩
          · subst hu; subst hS'; subst hB'
            obtain ⟨vs, rfl, ht, hB, hn⟩ := h1 a Hr hR
            have hq := nums_snoc Hr ⟨b, 0, ob⟩
            obtain ⟨vs', e, hv'⟩ := putA_rel (ht.grow [(⟨b, 0, ob⟩ : RBlk).num]) o.dst (hv _)
            have hown := (hSC1 w0 hw0).1.1
            have hst : Fw.Stable (fun w => S w ∧ Cl E.rows st1.m.wr Hr0 W (st1.m.H ++ [it]) (Hr ++ [⟨b, 0, ob⟩]) w) := fun w w' ⟨x, y⟩ hbb => ⟨hSS _ _ x hbb, cl_stable _ _ y hbb⟩
            have hcl : ∀ w, (S w ∧ Cl E.rows st1.m.wr Hr0 W (st1.m.H ++ [it]) (Hr ++ [⟨b, 0, ob⟩]) w) → ∀ x, clm W (Hr ++ [⟨b, 0, ob⟩]) x → x < w.heap.size := fun w hw => clm_lt (by simp [hB.len]) hw.2
            refine ⟨hst, fun w hw => hw.1, hcl, ?_⟩
            exact hl _ (Hr ++ [⟨b, 0, ob⟩]) ⟨vs', e, by rw [hq]; exact hv', by rw [hq]; exact (hB.grow _).snoc ((hc1 _).grow _), apart_new hn hown hB.len (fun _ => hb)⟩ Hr0 W L (fun w => S w ∧ Cl E.rows st1.m.wr Hr0 W (st1.m.H ++ [it]) (Hr ++ [⟨b, 0, ob⟩]) w) hst (fun w hw => hw.2) hlen ((show Stat stat Hr0 st1.m.H Hr by rw [h3]; exact hs).snoc _ _) (fun a' Hr' S' hR' hS' hst' => hL a' Hr' S' hR' (by rw [← h2]; exact hS') hst')
        · cases hp
      · obtain ⟨st', hK, hlo, hl⟩ := head_soundV h0 stat ops r _ K (fun m hm => hgg m (List.mem_cons_of_mem _ hm)) h5
        refine ⟨st', hK, hlo.trans h2, fun a Hr hR Hr0 W L S hSS hSC hlen hs hL => ?_⟩
        have hnext := hl _ _ ((h1 a Hr hR).put o.dst (v := undefA) (V := undef) .raw st1.m.ds) Hr0 W L S hSS (by rw [← h2] at hSC; rw [← h3] at hSC; exact hSC) hlen (by show Stat stat Hr0 st1.m.H Hr; rw [h3]; exact hs) (fun a' Hr' S' hR' hS' hst' => hL a' Hr' S' hR' (by rw [← h2]; exact hS') hst')
        exact ⟨o, at_list ho, .inr ⟨hw a Hr hR, hnext⟩⟩
    · exact h.elim
  | (.p i, _) :: r, st, K, hgg, h => by
    unfold headP at h
    split at h
    · rename_i o ho
      obtain ⟨st1, h1, h2, h3, h4⟩ := guard_sound (R := E.rows) h
      rcases h4 with ⟨h5, hw⟩ | ⟨_, h5, hw⟩
      · unfold calmP at h5
        split at h5
        · rename_i v cs hop
          obtain ⟨hcs, hk⟩ := allT_spec h5
          obtain ⟨st', hK, hlo, hl⟩ := head_soundV h0 stat ops r _ K (fun m hm => hgg m (List.mem_cons_of_mem _ hm)) hk
          refine ⟨st', hK, hlo.trans h2, @fun D a Hr hR Hr0 W L S hSS hSC hlen hs hL => ?_⟩
          have hR1 := h1 a Hr hR
          obtain ⟨tv, rfl, ht, hB, hn⟩ := hR1
          obtain ⟨V, hv, hx⟩ := opA_sound (ρ := nums Hr) (H := []) (Hr := []) hE.rows hE.eqs ⟨rfl, fun l it p h => by simp at h⟩ (fun _ _ e => by simp at e) (evO_sound (D := D) ht) hop hcs
          have hnext := hl _ _ (RelSt.put ⟨tv, rfl, ht, hB, hn⟩ o.dst hv st1.m.ds) Hr0 W L S hSS (by rw [← h2] at hSC; rw [← h3] at hSC; exact hSC) hlen (by show Stat stat Hr0 st1.m.H Hr; rw [h3]; exact hs) (fun a' Hr' S' hR' hS' hst' => hL a' Hr' S' hR' (by rw [← h2]; exact hS') hst')
          refine ⟨o, at_list ho, V, .inl ⟨hw _ Hr hR, fun w hc => ?_⟩, hnext⟩
          have hc := (hc.resolve_right (by simp)).2
          exact at1_run (hx w ⟨OwnM.nil _, hc.2.sub (by simp [nums, bs])⟩)
        · split at h5
          · rename_i t x hop
            split at h5
            · rename_i l off hx
              cases hst : (stat.getD fun _ => false) l <;> simp only [hst, cond_true, cond_false] at h5
              split at h5
              · rename_i v hv
                obtain ⟨st', hK, hlo, hl⟩ := head_soundV h0 stat ops r _ K (fun m hm => hgg m (List.mem_cons_of_mem _ hm)) h5
                refine ⟨st', hK, hlo.trans h2, @fun D a Hr hR Hr0 W L S hSS hSC hlen hs hL => ?_⟩
                have hR1 := h1 a Hr hR
                obtain ⟨tv, rfl, ht, hB, hn⟩ := hR1
                unfold loadA at hv
                simp only at hv
                split at hv
                · rename_i cs ty' hl'
                  obtain ⟨b, s0, Cs, e1, e2⟩ := hB.get hl'
                  obtain ⟨V, e3, e4⟩ := load_sound (P := E.P) hv e2
                  have hp := evO_sound (D := D) ht _ _ hx
                  generalize hge : (⟨tv.toArray, D⟩ : Act).eval x = pv at hp
                  cases hp with | ptr hb' =>
                  rw [nums_get e1] at hb'
                  obtain rfl := Option.some.inj hb'
                  have hnext := hl _ _ (RelSt.put ⟨tv, rfl, ht, hB, hn⟩ o.dst e3 st1.m.ds) Hr0 W L S hSS (by rw [← h2] at hSC; rw [← h3] at hSC; exact hSC) hlen (by show Stat stat Hr0 st1.m.H Hr; rw [h3]; exact hs) (fun a' Hr' S' hR' hS' hst' => hL a' Hr' S' hR' (by rw [← h2]; exact hS') hst')
                  refine ⟨o, at_list ho, V, .inl ⟨hw _ Hr hR, fun w hc => ?_⟩, hnext⟩
                  have hc := (hc.resolve_right (by simp)).2
                  obtain ⟨p, cs', t', x1, x2, x3, _⟩ := hs l hst
                  rw [e1] at x2; cases x2
                  have hblk : Blk w b Cs.toArray ty' := hc.1 l _ hst x1
                  refine at1_run ?_
                  obtain ⟨dst, op, ty, pos, aft, gd⟩ := o
                  subst hop
                  have := e4 w _ _ hblk
                  simp [execOp, hge, Instr.loadAt, Instr.sureAddr, RBlk.num, this]
                · cases hv
              · exact h5.elim
            · exact h5.elim
          · exact h5.elim
      · obtain ⟨st', hK, hlo, hl⟩ := head_soundV h0 stat ops r _ K (fun m hm => hgg m (List.mem_cons_of_mem _ hm)) h5
        refine ⟨st', hK, hlo.trans h2, fun a Hr hR Hr0 W L S hSS hSC hlen hs hL => ?_⟩
        have hnext := hl _ _ ((h1 a Hr hR).put o.dst (v := undefA) (V := undef) .raw st1.m.ds) Hr0 W L S hSS (by rw [← h2] at hSC; rw [← h3] at hSC; exact hSC) hlen (by show Stat stat Hr0 st1.m.H Hr; rw [h3]; exact hs) (fun a' Hr' S' hR' hS' hst' => hL a' Hr' S' hR' (by rw [← h2]; exact hS') hst')
        exact ⟨o, at_list ho, undef, .inr ⟨hw a Hr hR, rfl⟩, hnext⟩
    · exact h.elim
  | (.c i, _) :: r, st, K, hgg, h => by
    unfold headP at h
    split at h
    · rename_i o ho
      cases hgd : o.guard.isNone <;> simp only [hgd, cond_true, cond_false] at h
      have hg0 : o.guard = none := by simpa using hgd
      split at h
      · -- anything
        obtain ⟨st2, hk, hd⟩ := doP_sound hE hC h
        obtain ⟨st', hK, hlo, hl⟩ := head_soundV h0 none ops r _ K (fun m hm => hgg m (List.mem_cons_of_mem _ hm)) hk
        refine ⟨st', hK, hlo, @fun D a Hr hR Hr0 W L S hSS hSC hlen hs hL => ?_⟩
        have hs2 : ∀ H Hr', Stat none Hr0 H Hr' := fun H Hr' l hl => by simp at hl
        refine ⟨o, at_list ho, by simp [Region.wanted, hg0], fun u S' B' => ∃ Hr', RelSt E.rows D ⟨st2.tl, ⟨st2.m.H, st2.m.ds, st.m.wr⟩⟩ (a.put o.dst u) Hr' ∧ S' = Cl E.rows st.m.wr Hr0 W st2.m.H Hr' ∧ B' = clm W Hr', fun w hc => ?_, fun u S' B' ⟨Hr', hR', hS', hB'⟩ => ?_⟩
        · refine atR_mono (did_any (st := ⟨st.tl, ⟨st.m.H, st.m.ds, fun l => st.m.wr l || Nat.ble h0 l⟩⟩) hd hR (hSC w hc).1) fun u w' ⟨Hr', x1, x2, x3⟩ => ?_
          exact ⟨_, _, ⟨Hr', x1, rfl, rfl⟩, ⟨x2, (hSC w hc).2.trans' (by rw [hlen]; exact x3)⟩, left_stp x3⟩
        · subst hS'; subst hB'
          exact ⟨cl_stable, cl_st (hs2 _ _), fun w hw => clm_lt (rel_len hR') hw, hl _ _ hR' Hr0 W L _ cl_stable (fun _ h => h) hlen (hs2 _ _) hL⟩
      · rename_i s
        split at h
        · rename_i l cs hop
          split at h
          · rename_i cs0 t hcs0
            cases hle2 : ((st.m.wr l || Nat.ble h0 l) && !s l) <;> simp only [hle2, cond_true, cond_false] at h
            rw [Bool.and_eq_true] at hle2
            have hns : s l = false := by simpa using hle2.2
            obtain ⟨st', hK, hlo, hl⟩ := head_soundV h0 (some s) ops r _ K (fun m hm => hgg m (List.mem_cons_of_mem _ hm)) h
            refine ⟨st', hK, hlo, @fun D a Hr hR Hr0 W L S hSS hSC hlen hs hL => ?_⟩
            obtain ⟨tv, rfl, ht, hB, hn⟩ := hR
            obtain ⟨b, s0, Cs, Cs', ty, cs1, g1, g2, g3, g4, _, g5⟩ := opA_sound hE.rows hE.eqs hB (fun _ _ e => nums_get e) (evO_sound (D := D) ht) hop (by simp [Res.cs])
            rw [hcs0] at g1; cases g1
            have hph := hB.cph hcs0 g2
            have hnum : (⟨b, s0, .cells Cs'.toArray t (0, 0)⟩ : RBlk).num = (⟨b, s0, .cells Cs t (0, 0)⟩ : RBlk).num := by simp [RBlk.num, cntO, g4]
            have hN : nums (Hr.set l ⟨b, s0, .cells Cs'.toArray t (0, 0)⟩) = nums Hr := nums_set g2 (by simp [RBlk.num, cntO, g4])
            have hD := drop_all hN
            obtain ⟨vs', e, hv⟩ := putA_rel (D := D) (v := undefA) (V := undef) ht o.dst .raw
            have hstat : Stat (some s) Hr0 ((dropR l st.m.H).set l (.cells cs t)) (Hr.set l ⟨b, s0, .cells Cs'.toArray t (0, 0)⟩) := fun k hk => by
              obtain ⟨p, c1, t1, x1, x2, x3, x4⟩ := hs k hk
              have hkl : l ≠ k := fun e => by
                subst e
                have hk : s l = true := hk
                rw [hns] at hk; cases hk
              refine ⟨p, c1, t1, x1, by rw [List.getElem?_set_ne hkl]; exact x2, ?_, x4⟩
              rw [List.getElem?_set_ne hkl]
              unfold dropR dropI
              rw [List.getElem?_mapIdx, x3]
              have e1 : Nat.beq ((AIt.cells c1 t1).owner k) l = false := by
                rw [Bool.eq_false_iff]; intro e; exact hkl (Nat.eq_of_beq_eq_true e).symm
              simp [e1]
            have hrel : RelSt E.rows D ⟨putA st.tl o.dst undefA, ⟨(dropR l st.m.H).set l (.cells cs t), st.m.ds, st.m.wr⟩⟩ ((⟨tv.toArray, D⟩ : Act).put o.dst undef) (Hr.set l ⟨b, s0, .cells Cs'.toArray t (0, 0)⟩) :=
              ⟨vs', e, by rw [hN]; exact hv, by rw [hN]; exact (hB.dropI _).set (.cells g3 (by rw [hnum]; exact hph)), (apart_write (p' := ⟨b, s0, .cells Cs'.toArray t (0, 0)⟩) hn hcs0 rfl rfl g2 hph rfl).1⟩
            have hnext := hl _ _ hrel Hr0 W L _ cl_stable (fun _ h => h) hlen hstat hL
            refine ⟨o, at_list ho, by simp [Region.wanted, hg0], fun u S' B' => u = undef ∧ S' = Cl E.rows st.m.wr Hr0 W ((dropR l st.m.H).set l (.cells cs t)) (Hr.set l ⟨b, s0, .cells Cs'.toArray t (0, 0)⟩) ∧ B' = clm W (Hr.set l ⟨b, s0, .cells Cs'.toArray t (0, 0)⟩), fun w hc => ?_, fun u S' B' ⟨hu, hS', hB'⟩ => ?_⟩
            · have hc := hSC w hc
              obtain ⟨w', r1, r2, r3⟩ := g5 w hc.1
              have hS : Stp (fun l => st.m.wr l || Nat.ble Hr0.length l) Hr w (Hr.set l ⟨b, s0, .cells Cs'.toArray t (0, 0)⟩) w' := stp_write g2 hph (by rw [hlen]; exact hle2.1) (same_grown r2) hD.1 (by rw [hD.2]; simp)
              exact atR_skip r1 ⟨_, _, ⟨rfl, rfl, rfl⟩, ⟨⟨own_write hc.1.1 hn hB.len hcs0 rfl rfl g2 hph rfl (fun k _ hk => r2.block k hk) (by rw [r2.size]; exact Nat.le_refl _) r3, hS.rd hc.1.2⟩, hc.2.trans' hS⟩, left_stp hS⟩
            · subst hu; subst hS'; subst hB'
              exact ⟨cl_stable, cl_st hstat, fun w hw => clm_lt (rel_len hrel) hw, hnext⟩
          · exact h.elim
        · rename_i l n n' sz F t cs hop
          split at h
          · rename_i n0 s00 F00 e00 hrow
            cases hle2 : (st.m.wr l || Nat.ble h0 l) <;> simp only [hle2, cond_true, cond_false] at h
            obtain ⟨st2, hk, hd⟩ := resP_sound hE (st := ⟨st.tl, ⟨st.m.H, st.m.ds, fun j => Nat.beq j l⟩⟩) hop h
            cases hkb : keepB s 0 st2.m.H <;> simp only [hkb, cond_true, cond_false] at hk
            obtain ⟨st', hK, hlo, hl⟩ := head_soundV h0 (some s) ops r _ K (fun m hm => hgg m (List.mem_cons_of_mem _ hm)) hk
            refine ⟨st', hK, hlo, @fun D a Hr hR Hr0 W L S hSS hSC hlen hs hL => ?_⟩
            have hR0 := hR
            obtain ⟨tv, rfl, ht, hB, hn⟩ := hR0
            refine ⟨o, at_list ho, by simp [Region.wanted, hg0], fun u S' B' => ∃ Hr', RelSt E.rows D ⟨st2.tl, ⟨st2.m.H, st2.m.ds, st.m.wr⟩⟩ ((⟨tv.toArray, D⟩ : Act).put o.dst u) Hr' ∧ Stat (some s) Hr0 st2.m.H Hr' ∧ S' = Cl E.rows st.m.wr Hr0 W st2.m.H Hr' ∧ B' = clm W Hr', fun w hc => ?_, fun u S' B' ⟨Hr', hR', hst', hS', hB'⟩ => ?_⟩
            · refine atR_mono (did_any (st := ⟨st.tl, ⟨st.m.H, st.m.ds, fun j => Nat.beq j l⟩⟩) hd hR (hSC w hc).1) fun u w' ⟨Hr', x1, x2, x3⟩ => ?_
              have x1' := x1
              obtain ⟨_, _, _, x4, _⟩ := x1'
              exact ⟨_, _, ⟨Hr', x1, stat_keep hs (hSC w hc).1.1 x4 x2.1 x3 hkb (by
                intro k p cs1 t1 hk1 e2 e3 e4 j q hq hqp hb
                cases hj : Nat.beq j l
                · exact hj
                · obtain rfl := Nat.eq_of_beq_eq_true hj
                  obtain ⟨p2, h2, rfl⟩ := nums_at hq
                  have hne : j ≠ k := fun e => by
                    subst e
                    rw [hrow] at e3
                    cases e3
                  exact absurd (hn j k _ _ p2 p hne hrow e3 rfl rfl h2 e2 hqp e4 hb) hne), rfl, rfl⟩, ⟨x2, (hSC w hc).2.trans' (x3.mono (fun j hj => by
                have e := Nat.eq_of_beq_eq_true hj
                subst e
                rw [hlen]
                exact hle2))⟩, left_stp x3⟩
            · subst hS'; subst hB'
              exact ⟨cl_stable, cl_st hst', fun w hw => clm_lt (rel_len hR') hw, hl _ _ hR' Hr0 W L _ cl_stable (fun _ h => h) hlen hst' hL⟩
          · exact h.elim
        · rename_i n sz F t cs hop
          obtain ⟨st2, hk, hd⟩ := resP_sound hE (st := ⟨st.tl, ⟨st.m.H, st.m.ds, fun _ => false⟩⟩) hop h
          cases hkb : keepB s 0 st2.m.H <;> simp only [hkb, cond_true, cond_false] at hk
          obtain ⟨st', hK, hlo, hl⟩ := head_soundV h0 (some s) ops r _ K (fun m hm => hgg m (List.mem_cons_of_mem _ hm)) hk
          refine ⟨st', hK, hlo, @fun D a Hr hR Hr0 W L S hSS hSC hlen hs hL => ?_⟩
          have hR0 := hR
          obtain ⟨tv, rfl, ht, hB, hn⟩ := hR0
          refine ⟨o, at_list ho, by simp [Region.wanted, hg0], fun u S' B' => ∃ Hr', RelSt E.rows D ⟨st2.tl, ⟨st2.m.H, st2.m.ds, st.m.wr⟩⟩ ((⟨tv.toArray, D⟩ : Act).put o.dst u) Hr' ∧ Stat (some s) Hr0 st2.m.H Hr' ∧ S' = Cl E.rows st.m.wr Hr0 W st2.m.H Hr' ∧ B' = clm W Hr', fun w hc => ?_, fun u S' B' ⟨Hr', hR', hst', hS', hB'⟩ => ?_⟩
          · refine atR_mono (did_any (st := ⟨st.tl, ⟨st.m.H, st.m.ds, fun _ => false⟩⟩) hd hR (hSC w hc).1) fun u w' ⟨Hr', x1, x2, x3⟩ => ?_
            have x1' := x1
            obtain ⟨_, _, _, x4, _⟩ := x1'
            exact ⟨_, _, ⟨Hr', x1, stat_keep hs (hSC w hc).1.1 x4 x2.1 x3 hkb (by
              intro k p cs1 t1 hk1 e2 e3 e4 j q hq hqp hb
              rfl), rfl, rfl⟩, ⟨x2, (hSC w hc).2.trans' (x3.mono (fun j hj => by
              cases hj))⟩, left_stp x3⟩
          · subst hS'; subst hB'
            exact ⟨cl_stable, cl_st hst', fun w hw => clm_lt (rel_len hR') hw, hl _ _ hR' Hr0 W L _ cl_stable (fun _ h => h) hlen hst' hL⟩
        · rename_i l F cs hop
          split at h
          · rename_i n0 s00 F00 e00 hrow
            cases hle2 : (st.m.wr l || Nat.ble h0 l) <;> simp only [hle2, cond_true, cond_false] at h
            obtain ⟨st2, hk, hd⟩ := resP_sound hE (st := ⟨st.tl, ⟨st.m.H, st.m.ds, fun j => Nat.beq j l⟩⟩) hop h
            cases hkb : keepB s 0 st2.m.H <;> simp only [hkb, cond_true, cond_false] at hk
            obtain ⟨st', hK, hlo, hl⟩ := head_soundV h0 (some s) ops r _ K (fun m hm => hgg m (List.mem_cons_of_mem _ hm)) hk
            refine ⟨st', hK, hlo, @fun D a Hr hR Hr0 W L S hSS hSC hlen hs hL => ?_⟩
            have hR0 := hR
            obtain ⟨tv, rfl, ht, hB, hn⟩ := hR0
            refine ⟨o, at_list ho, by simp [Region.wanted, hg0], fun u S' B' => ∃ Hr', RelSt E.rows D ⟨st2.tl, ⟨st2.m.H, st2.m.ds, st.m.wr⟩⟩ ((⟨tv.toArray, D⟩ : Act).put o.dst u) Hr' ∧ Stat (some s) Hr0 st2.m.H Hr' ∧ S' = Cl E.rows st.m.wr Hr0 W st2.m.H Hr' ∧ B' = clm W Hr', fun w hc => ?_, fun u S' B' ⟨Hr', hR', hst', hS', hB'⟩ => ?_⟩
            · refine atR_mono (did_any (st := ⟨st.tl, ⟨st.m.H, st.m.ds, fun j => Nat.beq j l⟩⟩) hd hR (hSC w hc).1) fun u w' ⟨Hr', x1, x2, x3⟩ => ?_
              have x1' := x1
              obtain ⟨_, _, _, x4, _⟩ := x1'
              exact ⟨_, _, ⟨Hr', x1, stat_keep hs (hSC w hc).1.1 x4 x2.1 x3 hkb (by
                intro k p cs1 t1 hk1 e2 e3 e4 j q hq hqp hb
                cases hj : Nat.beq j l
                · exact hj
                · obtain rfl := Nat.eq_of_beq_eq_true hj
                  obtain ⟨p2, h2, rfl⟩ := nums_at hq
                  have hne : j ≠ k := fun e => by
                    subst e
                    rw [hrow] at e3
                    cases e3
                  exact absurd (hn j k _ _ p2 p hne hrow e3 rfl rfl h2 e2 hqp e4 hb) hne), rfl, rfl⟩, ⟨x2, (hSC w hc).2.trans' (x3.mono (fun j hj => by
                have e := Nat.eq_of_beq_eq_true hj
                subst e
                rw [hlen]
                exact hle2))⟩, left_stp x3⟩
            · subst hS'; subst hB'
              exact ⟨cl_stable, cl_st hst', fun w hw => clm_lt (rel_len hR') hw, hl _ _ hR' Hr0 W L _ cl_stable (fun _ h => h) hlen hst' hL⟩
          · exact h.elim
        · exact h.elim
    · exact h.elim
  | (.gg i j, _) :: r, st, K, hgg, h => absurd rfl (hgg _ (List.mem_cons_self ..) i j)
end
theorem lateR {Hr : List RBlk} {W : World} {st : ASt} {a : Act} {b : Nat} {cs : List AV} {Cs : List Value} {t : TypeId} {dst : Option Tmp} {v : AV} {V : Value} (hR : RelSt R D st a Hr) (hb : ¬ clm W Hr b) (hz : RelL R (nums Hr) cs Cs) (hv : Rel R (nums (Hr ++ [⟨b, 0, .cells Cs.toArray t (0, 0)⟩])) v V) :
    RelSt R D ⟨putA st.tl dst v, ⟨st.m.H ++ [.cells cs t], st.m.ds, st.m.wr⟩⟩ (a.put dst V) (Hr ++ [⟨b, 0, .cells Cs.toArray t (0, 0)⟩]) := by
  obtain ⟨tv, rfl, ht, hBl, hn⟩ := hR
  have hlen := hBl.len
  have hf : ∀ q ∈ Hr, q.num.ph = false → q.b ≠ b := fun q hq hqp e => hb (.inr ⟨q.num, List.mem_map.2 ⟨q, hq, rfl⟩, hqp, e⟩)
  have hq := nums_snoc Hr ⟨b, 0, .cells Cs.toArray t (0, 0)⟩
  rw [hq] at hv
  obtain ⟨vs1, e3, hv1⟩ := putA_rel (D := D) (ht.grow [(⟨b, 0, .cells Cs.toArray t (0, 0)⟩ : RBlk).num]) dst hv
  exact ⟨vs1, e3, by rw [hq]; exact hv1, by rw [hq]; exact (hBl.grow _).snoc (.cells (hz.grow _) rfl), apart_fresh hn hlen hf⟩
/-- A block that came at some time, and that nobody claims, is known behind the head. -/
theorem late {wr : Nat → Bool} {Hr0 Hr : List RBlk} {W w : World} {st : ASt} {a : Act} {b : Nat} {cs : List AV} {Cs : List Value} {t : TypeId} {dst : Option Tmp} {v : AV} {V : Value} (hR : RelSt R D st a Hr) (hC : Cl R wr Hr0 W st.m.H Hr w) (hW : Rd R [] W) (hb : ¬ clm W Hr b) (hB : Blk w b Cs.toArray t) (hz : RelL R (nums Hr) cs Cs) (hv : Rel R (nums (Hr ++ [⟨b, 0, .cells Cs.toArray t (0, 0)⟩])) v V) :
    RelSt R D ⟨putA st.tl dst v, ⟨st.m.H ++ [.cells cs t], st.m.ds, st.m.wr⟩⟩ (a.put dst V) (Hr ++ [⟨b, 0, .cells Cs.toArray t (0, 0)⟩]) ∧ Cl R wr Hr0 W (st.m.H ++ [.cells cs t]) (Hr ++ [⟨b, 0, .cells Cs.toArray t (0, 0)⟩]) w := by
  obtain ⟨tv, rfl, ht, hBl, hn⟩ := hR
  have hlen := hBl.len
  have hbW : W.heap.size ≤ b := Nat.le_of_not_lt fun h => hb (.inl h)
  have hf : ∀ q ∈ Hr, q.num.ph = false → q.b ≠ b := fun q hq hqp e => hb (.inr ⟨q.num, List.mem_map.2 ⟨q, hq, rfl⟩, hqp, e⟩)
  have hq := nums_snoc Hr ⟨b, 0, .cells Cs.toArray t (0, 0)⟩
  rw [hq] at hv
  obtain ⟨vs1, e3, hv1⟩ := putA_rel (D := D) (ht.grow [(⟨b, 0, .cells Cs.toArray t (0, 0)⟩ : RBlk).num]) dst hv
  refine ⟨⟨vs1, e3, by rw [hq]; exact hv1, by rw [hq]; exact (hBl.grow _).snoc (.cells (hz.grow _) rfl), apart_fresh hn hlen hf⟩, cl_more hlen hC ⟨hW, Nat.le_refl _⟩ hbW hB⟩
theorem lateV_rel {Hr : List RBlk} {H : Mem} {b : Nat} {Cs : Array Value} {t : TypeId} (hl : Hr.length = H.length) : ∀ v : Option (Nat × Nat), Rel R (nums (Hr ++ [⟨b, 0, .cells Cs t (0, 0)⟩])) (lateV H.length v) (lateK b v)
  | none => .ptr (q := (⟨b, 0, .cells Cs t (0, 0)⟩ : RBlk).num) (by rw [nums_snoc, ← hl]; simp [nums])
  | some (n, c) => .slice (q := (⟨b, 0, .cells Cs t (0, 0)⟩ : RBlk).num) (by rw [nums_snoc, ← hl]; simp [nums])
/-- What the late block is made of is known ahead. -/
theorem late_at {E : Env} (hE : EnvOK E) {st : ASt} {fo : Oper} {cs : List AV} {t : TypeId} {v : Option (Nat × Nat)} (h : lateA E st.tl fo = some (cs, t, v)) : ∃ Cs, AV.vals? cs = some Cs ∧ ∀ {D : List Deferred} {a : Act} {Hr : List RBlk}, RelSt E.rows D st a Hr → ∀ w, Rd E.rows [] w → atA E.P fo a w (fun b => lateK b v) Cs.toArray t := by
  have fine : ∀ {r : Res}, opA E.P E.rows E.eqs [] (evO st.tl) fo.op = some r → (∀ c ∈ r.cs, c = true) → ∀ {D : List Deferred} {a : Act} {Hr : List RBlk}, RelSt E.rows D st a Hr → Fine E.P E.rows (nums Hr) [] [] a.eval fo r := fun {r} hop hcs {D a Hr} hR => by
    obtain ⟨tv, rfl, ht, hB, hn⟩ := hR
    exact opA_sound (ρ := nums Hr) (H := []) (Hr := []) hE.rows hE.eqs ⟨rfl, fun l it p h => by simp at h⟩ (fun _ _ e => by simp at e) (evO_sound (D := D) ht) hop hcs
  unfold lateA at h
  split at h
  · rename_i cs' t' hop
    cases hv : (AV.vals? cs').isSome <;> simp only [hv, cond_true, cond_false] at h
    · cases h
    cases h
    obtain ⟨Cs, hCs⟩ := Option.isSome_iff_exists.1 hv
    refine ⟨Cs, hCs, fun {D a Hr} hR w hw => ?_⟩
    obtain ⟨Cs', h1, h2⟩ := fine hop (by simp [Res.cs]) hR
    obtain rfl := h1.vals hCs
    exact atR_value (h2 w ⟨OwnM.nil _, hw⟩) ⟨rfl, rfl⟩
  · rename_i cs' t' n c hop
    cases hv : (AV.vals? cs').isSome <;> simp only [hv, cond_true, cond_false] at h
    · cases h
    cases h
    obtain ⟨Cs, hCs⟩ := Option.isSome_iff_exists.1 hv
    refine ⟨Cs, hCs, fun {D a Hr} hR w hw => ?_⟩
    obtain ⟨Cs', h1, h2⟩ := fine hop (by simp [Res.cs]) hR
    obtain rfl := h1.vals hCs
    exact atR_value (h2 w ⟨OwnM.nil _, hw⟩) ⟨rfl, rfl⟩
  · cases h
end

section
variable {D : List Deferred} {R : Rws}
theorem planFrom_ok {gen eff : FuncId → Bool} {l : List Oper} {p : Plan} : ∀ {k n : Nat}, planFrom gen eff l k n = some p → p.ok l = true
  | 0, n, h => by cases h
  | k + 1, n, h => by
    unfold planFrom at h
    simp only at h
    cases h1 : ((planAt gen eff l n).ok l && ggOK l (planAt gen eff l n).ord) <;> simp only [h1, cond_true, cond_false] at h
    · exact planFrom_ok h
    · cases h; rw [Bool.and_eq_true] at h1; exact h1.1
theorem stat_of {E : Env} {st : ASt} {l : List Oper} {n : Nat} {ord : List (Mv × Nat)} {Hr : List RBlk} {R : Rws} (hB : RelB R (nums Hr) st.m.H Hr) : Stat (statOf E st l n ord) Hr st.m.H Hr := fun i hi => by
  have hl := hB.len
  unfold statOf at hi
  cases ha : (anyEff E.gen E.eff (l.take n) && !hasPL l ord) <;> simp only [ha, cond_true, cond_false, Option.getD_some, Option.getD_none] at hi
  · rw [Bool.and_eq_true, Bool.and_eq_true, Nat.blt_eq] at hi
    obtain ⟨⟨h1, h2⟩, _⟩ := hi
    split at h2
    · rename_i cs t hit
      have hi' : Hr[i]? = some Hr[i] := List.getElem?_eq_getElem (by omega)
      exact ⟨_, cs, t, hi', hi', hit, hB.cph hit hi'⟩
    · cases h2
  · cases hi
theorem noGG_spec : ∀ {ord : List (Mv × Nat)}, noGG ord = true → ∀ m ∈ ord, ∀ i j, m.1 ≠ .gg i j
  | [], _, m, hm, _, _ => by cases hm
  | (.q _, _) :: r, h, m, hm, i, j => by
    rcases List.mem_cons.1 hm with rfl | hm
    · simp
    · exact noGG_spec (ord := r) h m hm i j
  | (.p _, _) :: r, h, m, hm, i, j => by
    rcases List.mem_cons.1 hm with rfl | hm
    · simp
    · exact noGG_spec (ord := r) h m hm i j
  | (.g _, _) :: r, h, m, hm, i, j => by
    rcases List.mem_cons.1 hm with rfl | hm
    · simp
    · exact noGG_spec (ord := r) h m hm i j
  | (.c _, _) :: r, h, m, hm, i, j => by
    rcases List.mem_cons.1 hm with rfl | hm
    · simp
    · exact noGG_spec (ord := r) h m hm i j
  | (.gg _ _, _) :: r, h, m, hm, i, j => by cases h
theorem planFi_ok {gen eff : FuncId → Bool} {l : List Oper} {n : Nat} {p : Plan} {po : List (Mv × Nat)} {fi k : Nat} : ∀ {fs : List Nat}, planFi gen eff l n fs = some (p, po, fi, k) → ∃ fo, l[fi]? = some fo ∧ noGG p.ord = true ∧ Fv.regionFB .any l p.n p.C p.G p.T0 p.ord p.tl fi k po fo = true
  | [], h => by cases h
  | f :: r, h => by
    unfold planFi at h
    split at h
    · rename_i fo hfo
      cases hm : isMake fo <;> simp only [hm, cond_true, cond_false] at h
      · exact planFi_ok h
      · cases hb : (noGG (planFAt gen eff l n f).ord && Fv.regionFB .any l (planFAt gen eff l n f).n (planFAt gen eff l n f).C (planFAt gen eff l n f).G (planFAt gen eff l n f).T0 (planFAt gen eff l n f).ord (planFAt gen eff l n f).tl f (qpLen (planFAt gen eff l n f).ord) (postF gen eff l (planFAt gen eff l n f) f) fo) <;> simp only [hb, cond_true, cond_false] at h
        · exact planFi_ok h
        · cases h
          rw [Bool.and_eq_true] at hb
          exact ⟨fo, hfo, hb.1, hb.2⟩
    · exact planFi_ok h
theorem planFFrom_ok {gen eff : FuncId → Bool} {l : List Oper} {p : Plan} {po : List (Mv × Nat)} {fi k : Nat} : ∀ {q n : Nat}, planFFrom gen eff l q n = some (p, po, fi, k) → ∃ fo, l[fi]? = some fo ∧ noGG p.ord = true ∧ Fv.regionFB .any l p.n p.C p.G p.T0 p.ord p.tl fi k po fo = true
  | 0, n, h => by cases h
  | q + 1, n, h => by
    unfold planFFrom at h
    split at h
    · rename_i r hr
      cases h
      exact planFi_ok hr
    · exact planFFrom_ok h
section
variable {E : Env} (hE : EnvOK E) {call : CallF} (hC : CallOK E call)
include hE hC
/-- A region that draws its order. -/
theorem drawn_sound {id : Nat} {l : List Oper} {st : ASt} {K : ASt → Prop} (h : drawnP E call l st K) : ∃ st', K st' ∧ st'.m.wr = st.m.wr ∧ ∀ {D : List Deferred} a Hr w, RelSt E.rows D st a Hr → OwnK E.rows st.m.H Hr w → ∀ Q : Exit → Act → World → Prop,
    (∀ a' Hr' w', RelSt E.rows D st' a' Hr' → OwnK E.rows st'.m.H Hr' w' → Stp st.m.wr Hr w Hr' w' → Q .normal a' w') → (Code.region id l.toArray true).wp E.P Q a w := by
  unfold drawnP at h
  split at h
  · rename_i p hp
    obtain ⟨st1, h1, hlo1, h2⟩ := head_sound hE hC st.m.H.length (statOf E st l p.n p.ord) l p.ord st _ h
    obtain ⟨st2, h3, hlo2, h4⟩ := list_sound hE hC l (l.drop p.n) st1 K h1
    refine ⟨st2, h3, hlo2.trans hlo1, fun a Hr w hR hO Q hq => ?_⟩
    have hok := planFrom_ok hp
    unfold Plan.ok at hok
    have hBl : RelB E.rows (nums Hr) st.m.H Hr := by obtain ⟨_, _, _, hB, _⟩ := hR; exact hB
    have hlen := hBl.len
    have hst := stat_of (E := E) (l := l) (n := p.n) (ord := p.ord) hBl
    have hdr := (Below.refl w.heap.size w).drew
    refine Fw.wp_region_grow p.n p.C p.G p.T0 p.ord p.tl (StP E.rows (statOf E st l p.n p.ord) Hr) (Cl E.rows st.m.wr Hr w st.m.H Hr) (cl_st hst) cl_stable hE.mixed hok ⟨⟨hO.1.grow hdr, hO.2.below' hdr⟩, .of_below hdr⟩ ?_
    refine h2 a Hr hR Hr w _ _ cl_stable (fun _ h => h) hlen hst fun a' Hr' S' hR' hS' w' hss hw' => ?_
    have hcl := hS' w' hw'
    refine h4 a' Hr' w' hR' hcl.1 Q fun a2 Hr2 w2 hR2 hO2 hS2 => hq a2 Hr2 w2 hR2 hO2 ?_
    rw [hlo1] at hS2
    exact hcl.2.trans hS2
  · split at h
    · rename_i p po fi k hp
      obtain ⟨fo, hfo, hgg, hok⟩ := planFFrom_ok hp
      rw [hfo] at h
      simp only at h
      have hgg := noGG_spec hgg
      obtain ⟨st1, h1, hlo1, h2⟩ := head_soundV hE hC st.m.H.length (statOf E st l p.n (p.ord ++ po)) l (p.ord.take k) st _ (fun m hm => hgg m (List.mem_of_mem_take hm)) h
      split at h1
      · rename_i cs t v hlt
        obtain ⟨Cs, hCs, hat⟩ := late_at hE hlt
        obtain ⟨st2, h3, hlo2, h4⟩ := head_soundV hE hC st.m.H.length (statOf E st l p.n (p.ord ++ po)) l (p.ord.drop k) st1 _ (fun m hm => hgg m (List.mem_of_mem_drop hm)) h1
        obtain ⟨st2b, h3b, hlo2b, h4b⟩ := head_sound hE hC st.m.H.length (statOf E st l p.n (p.ord ++ po)) l po _ _ h3
        obtain ⟨st3, h5, hlo3, h6⟩ := list_sound hE hC l (l.drop p.n) _ K h3b
        have hwr2 : st2b.m.wr = st.m.wr := hlo2b.trans (hlo2.trans hlo1)
        refine ⟨st3, h5, hlo3.trans hwr2, fun a Hr w hR hO Q hq => ?_⟩
        have hBl : RelB E.rows (nums Hr) st.m.H Hr := by obtain ⟨_, _, _, hB, _⟩ := hR; exact hB
        have hlen := hBl.len
        have hst := stat_of (E := E) (l := l) (n := p.n) (ord := p.ord ++ po) hBl
        have hdr := (Below.refl w.heap.size w).drew
        have hcl0 : Cl E.rows st.m.wr Hr w st.m.H Hr w.drew := ⟨⟨hO.1.grow hdr, hO.2.below' hdr⟩, .of_below hdr⟩
        refine Fv.wp_region_float p.n p.C p.G p.T0 p.ord p.tl fi k po (StP E.rows (statOf E st l p.n (p.ord ++ po)) Hr) (Cl E.rows st.m.wr Hr w st.m.H Hr) (clm w Hr) (cl_st hst) cl_stable (fun w' hw' => clm_lt hlen hw') hE.mixed hok (by rw [List.getElem?_toArray]; exact hfo) hcl0 ?_
        rw [← List.map_take, ← List.map_drop]
        refine h2 a Hr hR Hr w _ _ cl_stable (fun _ h => h) hlen hst fun a1 Hr1 S1 hR1 hS1 hst1 hSt1 hBd1 => ?_
        refine ⟨fun b => lateK b v, Cs.toArray, t, fun w' hw' => hat hR1 w' (hw'.2.sub (by simp)), ?_⟩
        have hB1 : RelB E.rows (nums Hr1) st1.m.H Hr1 := by obtain ⟨_, _, _, hB, _⟩ := hR1; exact hB
        refine h4 a1 Hr1 hR1 Hr w _ _ hSt1.1 (fun w' hw' => by rw [hlo1]; exact hS1 w' hw') hlen hst1 fun a2 Hr2 S2 hR2 hS2 hst2 b hb hssW => ?_
        have hvL := lateV_rel (R := E.rows) (H := st2.m.H) (b := b) (Cs := Cs.toArray) (t := t) (rel_len hR2) v
        have hRl := lateR (dst := fo.dst) hR2 hb (RelL.of_vals hCs) hvL
        refine h4b _ _ hRl Hr w _ _ hssW (fun w' hw' => ?_) hlen (hst2.snoc _ _) fun a2b Hr2b S2b hR2b hS2b w' _ hw' => ?_
        · have hcl := hS2 w' hw'.1
          rw [hlo1] at hcl
          show Cl E.rows st2.m.wr Hr w _ _ w'
          rw [hlo2.trans hlo1]
          exact (late (dst := fo.dst) hR2 hcl (hO.2.sub (by simp)) hb hw'.2 (RelL.of_vals hCs) hvL).2
        · have hcl := hS2b w' hw'
          refine h6 _ _ w' hR2b hcl.1 Q fun a3 Hr3 w3 hR3 hO3 hS3 => hq a3 Hr3 w3 hR3 hO3 ?_
          rw [hwr2] at hS3
          have h9 := hcl.2
          rw [show (⟨putA st2.tl fo.dst (lateV st2.m.H.length v), ⟨st2.m.H ++ [.cells cs t], st2.m.ds, st2.m.wr⟩⟩ : ASt).m.wr = st.m.wr from hlo2.trans hlo1] at h9
          exact h9.trans hS3
      · exact h1.elim
    · exact h.elim
end
end

section
variable {D : List Deferred} {R : Rws}

def resM (tmps : Array Value) : ResultVar → Sem Value
  | .tmp t => pure (tmps.getD t undef)
  | .cell a t => do loadVar t (← asAddr (tmps.getD a undef))
theorem asAddr_ptr (a : Addr) : asAddr (.pointer (some a)) = pure a := rfl
theorem res_sound {P : Program} (hRw : RwOK R) {H : Mem} {Hr : List RBlk} {ρ : Nums} {tl : List AV} {tv : List Value} (ht : RelL R ρ tl tv) (hB : RelB R ρ H Hr) (hρ : ρ = nums Hr) : ∀ {rs : List ResultVar} {vs : List AV}, resA P R H tl rs = some vs →
    ∃ Vs : List Value, RelL R ρ vs Vs ∧ ∀ w, OwnK R H Hr w → (rs.mapM (resM tv.toArray)).run P w = .ok Vs w
  | [], vs, h => by
    simp [resA] at h; subst h
    exact ⟨[], .nil, fun w _ => rfl⟩
  | .tmp t :: r, vs, h => by
    unfold resA at h
    split at h
    · rename_i v vs' h1 h2
      cases h
      obtain ⟨V, e1, e2⟩ := ht.get h1
      obtain ⟨Vs, e3, e4⟩ := res_sound hRw ht hB hρ h2
      refine ⟨V :: Vs, .cons e2 e3, fun w hO => ?_⟩
      simp only [List.mapM_cons, resM, Sem.run_bind, Sem.run_pure, Result.andThen_ok, e4 w hO]
      simp [e1]
    · cases h
  | .cell a t :: r, vs, h => by
    unfold resA at h
    split at h
    · rename_i v vs' h1 h2
      cases h
      obtain ⟨Vs, e3, e4⟩ := res_sound hRw ht hB hρ h2
      rw [Option.bind_eq_some_iff] at h1
      obtain ⟨p, hp, hl⟩ := h1
      obtain ⟨V0, e1, e2⟩ := ht.get hp
      unfold loadA at hl
      split at hl
      rotate_left
      · rename_i j i o
        split at hl
        · rename_i r hr
          generalize V0 = pv at e1 e2
          cases e2 with | rptr hj ha hi =>
          rename_i b0 off0
          rw [hr] at hj; cases hj
          obtain ⟨m, rfl⟩ := Int.eq_ofNat_of_zero_le hi.1
          have hm : m < r.n := by have := hi.2; omega
          obtain ⟨V, e7, e8⟩ := load_row (P := P) hl (RelL.of_vals (ρ := ρ) (hRw.vals j r hr m hm))
          refine ⟨V :: Vs, .cons e7 e3, fun w hO => ?_⟩
          obtain ⟨_, _, hcell⟩ := hO.2 j r hr _ _ ha (by omega)
          have h9 := e8 w _ _ (hcell m hm)
          simp only [List.mapM_cons, resM, Sem.run_bind, Sem.run_pure, Result.andThen_ok, e4 w hO]
          have h10 : (tv.toArray.getD a undef) = .pointer (some ⟨b0, off0 + m * r.s + o, none⟩) := by simp [e1]
          rw [h10]
          simp only [asAddr_ptr, Sem.run_pure, Result.andThen_ok, h9, e4 w hO]
        · cases hl
      · cases hl
      · rename_i l o
        split at hl
        · rename_i cs ty hH
          obtain ⟨b, s0, Cs, e5, e6⟩ := hB.get hH
          generalize V0 = pv at e1 e2
          cases e2 with | ptr hb' =>
          rw [hρ, nums_get e5] at hb'
          obtain rfl := Option.some.inj hb'
          obtain ⟨V, e7, e8⟩ := load_sound (P := P) hl e6
          refine ⟨V :: Vs, .cons e7 e3, fun w hO => ?_⟩
          have hblk : Blk w b Cs.toArray ty := (hO.1 _ _ _ hH e5 (hB.cph hH e5)).2 rfl
          simp only [List.mapM_cons, resM, Sem.run_bind, Sem.run_pure, Result.andThen_ok, e4 w hO]
          have : (tv.toArray.getD a undef) = .pointer (some ⟨b, o, none⟩) := by simp [e1, RBlk.num]
          rw [this]
          simp only [asAddr_ptr, Sem.run_pure, Result.andThen_ok, e8 w b ty hblk, e4 w hO]
        · cases hl
    · cases h
theorem one_rel {ρ : Nums} {vs : List AV} {Vs : List Value} (h : RelL R ρ vs Vs) : Rel R ρ (oneA vs) (if h : Vs.toArray.size = 1 then Vs.toArray[0] else .tuple Vs.toArray) := by
  cases h with
  | nil => exact .tuple .nil
  | cons h hs => cases hs with
    | nil => exact h
    | cons h' hs => exact .tuple (.cons h (.cons h' hs))
theorem results_sound {P : Program} (hRw : RwOK R) {fn : Func} {st : ASt} {a : Act} {Hr : List RBlk} {vs : List AV} (hR : RelSt R D st a Hr) (h : resA P R st.m.H st.tl fn.results.toList = some vs) :
    ∃ V, Rel R (nums Hr) (oneA vs) V ∧ ∀ w, OwnK R st.m.H Hr w → (results fn a.tmps).run P w = .ok V w := by
  obtain ⟨tv, rfl, ht, hB, hn⟩ := hR
  obtain ⟨Vs, h1, h2⟩ := res_sound hRw ht hB rfl h
  refine ⟨_, one_rel h1, fun w hO => ?_⟩
  have h3 := h2 w hO
  have e : results fn tv.toArray = (do let vs ← fn.results.mapM (resM tv.toArray); pure (if h : vs.size = 1 then vs[0] else .tuple vs)) := rfl
  rw [e, ← Array.toArray_toList (xs := fn.results)]
  rw [List.mapM_toArray]
  simp only [Sem.run_bind, map_eq_pure_bind, h3, Sem.run_pure, Result.andThen_ok]

def AExit.real : AExit → Exit
  | .normal => .normal
  | .exit i => .exit i
  | .goto l => .goto l
  | .ret => .ret
def Rch (R : Rws) (D : List Deferred) (e : AExit) (st' : ASt) (lo : Nat → Bool) (Hr : List RBlk) (w : World) : Exit → Act → World → Prop := fun e' a' w' => e' = e.real ∧ ∃ Hr', RelSt R D st' a' Hr' ∧ OwnK R st'.m.H Hr' w' ∧ Stp lo Hr w Hr' w'
theorem Rch.over {e : AExit} {st' : ASt} {lo : Nat → Bool} {Hr Hr1 : List RBlk} {w w1 : World} (hS : Stp lo Hr w Hr1 w1) {e2 : Exit} {a2 : Act} {w2 : World} (h : Rch R D e st' lo Hr1 w1 e2 a2 w2) : Rch R D e st' lo Hr w e2 a2 w2 := by
  obtain ⟨he, Hr', h1, h2, h3⟩ := h
  exact ⟨he, Hr', h1, h2, hS.trans h3⟩
def TaskWp (P : Program) (Q : Exit → Act → World → Prop) : Task → Act → World → Prop
  | .code c, a, w => c.wp P Q a w
  | .inS c0 c, a, w => ∀ (b : Frame) (k : List Item) (cs : List Frame), ∃ e a' w', Q e a' w' ∧ Arrives P (lone (b.at a (.code c :: .inScope c0 :: k)) cs w) b k cs e a' w'
  | .inL c, a, w => ∀ (b : Frame) (k : List Item) (cs : List Frame), ∃ e a' w', Q e a' w' ∧ Arrives P (lone (b.at a (.inLoop c :: k)) cs w) b k cs e a' w'
/-- What is said of what is carried out. -/
def EvOK (E : Env) (ev : Task → ASt → (AExit → ASt → Prop) → Prop) : Prop := ∀ t st K, ev t st K → ∃ e st', K e st' ∧ st'.m.wr = st.m.wr ∧ ∀ {D : List Deferred} a Hr w, RelSt E.rows D st a Hr → OwnK E.rows st.m.H Hr w → TaskWp E.P (Rch E.rows D e st' st.m.wr Hr w) t a w

theorem call_ok {E : Env} (hE : EnvOK E) {ev : Task → ASt → (AExit → ASt → Prop) → Prop} (h : EvOK E ev) : CallOK E (callWith E ev) := by
  intro f args m K hc
  unfold callWith at hc
  split at hc
  · rename_i fn hf
    split at hc
    · rename_i c hb
      cases hn : (fn.name == "runtime.NumGoroutine") <;> simp only [hn, cond_true, cond_false] at hc
      obtain ⟨e, st', hk, hlo, hs⟩ := h _ _ _ hc
      have key : ∀ vs, resA E.P E.rows st'.m.H st'.tl fn.results.toList = some vs → (e = .normal ∨ e = .ret) → ∀ Hr w Args, RelL E.rows (nums Hr) args Args → RelB E.rows (nums Hr) m.H Hr → Apart m.H Hr → OwnK E.rows m.H Hr w →
          Calls E.P f Args.toArray w fun e w' => ∃ V Hr', e = .returned V ∧ Rel E.rows (nums Hr') (oneA vs) V ∧ RelB E.rows (nums Hr') st'.m.H Hr' ∧ Apart st'.m.H Hr' ∧ OwnK E.rows st'.m.H Hr' w' ∧ Stp m.wr Hr w Hr' w' := by
        intro vs hvs he Hr w Args ha hB hnd hO
        have hR : RelSt E.rows [] ⟨args ++ List.replicate (fn.ntmps - args.length) undefA, m⟩ ⟨Args.toArray ++ Array.replicate (fn.ntmps - Args.toArray.size) undef, []⟩ Hr := by
          refine ⟨Args ++ List.replicate (fn.ntmps - args.length) undef, ?_, ha.append (RelL.rep .raw _), hB, hnd⟩
          congr 1
          apply Array.toList_inj.1
          simp [ha.len]
        refine calls_of_wp hf hb (wp_mono (hs _ Hr w hR hO) ?_)
        rintro e' a' w' ⟨rfl, Hr', hR', hO', hS⟩
        have hd : a'.defers = [] := by obtain ⟨tv, rfl, _⟩ := hR'; rfl
        obtain ⟨V, hv, hr⟩ := results_sound hE.rows hR' hvs
        have hR2 := hR'
        obtain ⟨tv, _, _, hB', hn'⟩ := hR2
        rcases he with rfl | rfl <;> exact ⟨hd, V, hr w' hO', V, Hr', rfl, hv, hB', hn', hO', hS⟩
      have hen := enters_of hf hn hb
      cases e <;> simp only at hk
      case normal =>
        split at hk
        · rename_i vs hvs
          exact ⟨_, _, hk, hlo, hen, key vs hvs (.inl rfl)⟩
        · exact hk.elim
      case ret =>
        split at hk
        · rename_i vs hvs
          exact ⟨_, _, hk, hlo, hen, key vs hvs (.inr rfl)⟩
        · exact hk.elim
    · exact hc.elim
  · exact hc.elim

theorem cond_bool {st : ASt} {a : Act} {Hr : List RBlk} (hR : RelSt R D st a Hr) {c : Operand} {l z : Bool} (h : evO st.tl c = some (.bool l z)) : a.eval c = .bool z := by
  obtain ⟨tv, rfl, ht, _, _⟩ := hR
  exact (evO_sound (D := D) ht _ _ h).bool_inv

theorem refine_sound {st : ASt} {a : Act} {Hr : List RBlk} (hR : RelSt R D st a Hr) {c : Operand} {z : Bool} (h : evO st.tl c = some (.bool false z)) {ds : List Bool} : RelSt R D ⟨refineA st.tl c z, ⟨st.m.H, ds, st.m.wr⟩⟩ a Hr := by
  obtain ⟨tv, rfl, ht, hB, hn⟩ := hR
  unfold refineA
  split
  · rename_i t
    have h : st.tl[t]? = some (.bool false z) := h
    obtain ⟨V, h1, h2⟩ := ht.get h
    obtain rfl := h2.bool_inv
    exact ⟨tv, rfl, ht.setSame h1 .bool, hB, hn⟩
  · exact ⟨tv, rfl, ht, hB, hn⟩
theorem ev_sound {E : Env} (hE : EnvOK E) : ∀ n, EvOK E (evT E n)
  | 0 => fun t st K h => by cases t <;> exact h.elim
  | n + 1 => by
    have ih := ev_sound hE n
    have hC := call_ok hE ih
    intro t st K h
    cases t with
    | inS c0 c =>
      simp only [evT, frc_eq] at h
      obtain ⟨e1, st1, h1, hlo1, h2⟩ := ih _ _ _ h
      cases e1 <;> simp only [frc_eq] at h1
      case goto l =>
        split at h1
        · rename_i rest hf
          obtain ⟨e, st', hk, hlo, hs⟩ := ih _ _ _ h1
          refine ⟨e, st', hk, hlo.trans hlo1, fun a Hr w hR hO b k cs => ?_⟩
          obtain ⟨e', a1, w1, ⟨rfl, Hr1, hR1, hO1, hS1⟩, harr⟩ := h2 a Hr w hR hO b (.inScope c0 :: k) cs
          obtain ⟨e2, a2, w2, hq, harr2⟩ := hs a1 Hr1 w1 hR1 hO1 b k cs
          rw [hlo1] at hq
          exact ⟨e2, a2, w2, hq.over hS1, .of_steps (harr _ (by simp [gotoIn, hf])) harr2⟩
        · exact h1.elim
      all_goals
        refine ⟨_, st1, h1, hlo1, fun a Hr w hR hO b k cs => ?_⟩
        obtain ⟨e', a1, w1, ⟨rfl, hq⟩, harr⟩ := h2 a Hr w hR hO b (.inScope c0 :: k) cs
        refine ⟨_, a1, w1, ⟨rfl, hq⟩, ?_⟩
      · exact Steps.trans harr (.one step_inScope)
      · exact fun k' hk => harr k' (by simp [exitTo, hk])
      · exact harr
    | inL c =>
      simp only [evT, frc_eq] at h
      obtain ⟨e1, st1, h1, hlo1, h2⟩ := ih _ _ _ h
      cases e1 <;> simp only [frc_eq] at h1
      case normal =>
        obtain ⟨e, st', hk, hlo, hs⟩ := ih _ _ _ h1
        refine ⟨e, st', hk, hlo.trans hlo1, fun a Hr w hR hO b k cs => ?_⟩
        obtain ⟨e', a1, w1, ⟨rfl, Hr1, hR1, hO1, hS1⟩, harr⟩ := h2 a Hr w hR hO b (.inLoop c :: k) cs
        obtain ⟨e2, a2, w2, hq, harr2⟩ := hs a1 Hr1 w1 hR1 hO1 b k cs
        rw [hlo1] at hq
        exact ⟨e2, a2, w2, hq.over hS1, .of_steps (.head step_inLoop harr) harr2⟩
      all_goals
        refine ⟨_, st1, h1, hlo1, fun a Hr w hR hO b k cs => ?_⟩
        obtain ⟨e', a1, w1, ⟨rfl, hq⟩, harr⟩ := h2 a Hr w hR hO b (.inLoop c :: k) cs
        exact ⟨_, a1, w1, ⟨rfl, hq⟩, .of_steps (.one step_inLoop) (.pass (x := .inLoop c) rfl (fun _ _ => .inl (by simp [AExit.real])) harr)⟩
    | code c =>
      cases c with
      | skip => exact ⟨.normal, st, h, rfl, fun a Hr w hR hO => wp_skip ⟨rfl, Hr, hR, hO, .refl _ _ _⟩⟩
      | exit id => exact ⟨.exit id, st, h, rfl, fun a Hr w hR hO => wp_exit ⟨rfl, Hr, hR, hO, .refl _ _ _⟩⟩
      | goto l => exact ⟨.goto l, st, h, rfl, fun a Hr w hR hO => wp_goto ⟨rfl, Hr, hR, hO, .refl _ _ _⟩⟩
      | label l => exact ⟨.normal, st, h, rfl, fun a Hr w hR hO => wp_label ⟨rfl, Hr, hR, hO, .refl _ _ _⟩⟩
      | ret => exact ⟨.ret, st, h, rfl, fun a Hr w hR hO => wp_ret ⟨rfl, Hr, hR, hO, .refl _ _ _⟩⟩
      | region id ops d =>
        cases d with
        | false =>
          simp only [evT, frc_eq] at h
          obtain ⟨st', hk, hlo, hs⟩ := list_sound hE hC _ _ _ _ h
          refine ⟨.normal, st', hk, hlo, fun a Hr w hR hO => wp_region_list ?_⟩
          have := hs a Hr w hR hO (Rch _ _ .normal st' st.m.wr Hr w) fun a' Hr' w' hR' hO' hS => ⟨rfl, Hr', hR', hO', hS⟩
          rwa [Array.toArray_toList] at this
        | true =>
          simp only [evT, frc_eq] at h
          obtain ⟨st', hk, hlo, hs⟩ := drawn_sound hE hC (id := id) h
          refine ⟨.normal, st', hk, hlo, fun a Hr w hR hO => ?_⟩
          have := hs a Hr w hR hO (Rch _ _ .normal st' st.m.wr Hr w) fun a' Hr' w' hR' hO' hS => ⟨rfl, Hr', hR', hO', hS⟩
          rwa [Array.toArray_toList] at this
      | seq x y =>
        simp only [evT, frc_eq] at h
        obtain ⟨e1, st1, h1, hlo1, h2⟩ := ih _ _ _ h
        cases e1 <;> simp only [frc_eq] at h1
        case normal =>
          obtain ⟨e, st', hk, hlo, hs⟩ := ih _ _ _ h1
          refine ⟨e, st', hk, hlo.trans hlo1, fun a Hr w hR hO => wp_seq (wp_mono (h2 a Hr w hR hO) ?_)⟩
          rintro e' a1 w1 ⟨rfl, Hr1, hR1, hO1, hS1⟩
          refine wp_mono (hs a1 Hr1 w1 hR1 hO1) fun e2 a2 w2 hq => ?_
          rw [hlo1] at hq
          exact hq.over hS1
        all_goals
          refine ⟨_, st1, h1, hlo1, fun a Hr w hR hO => wp_seq (wp_mono (h2 a Hr w hR hO) ?_)⟩
          rintro e' a1 w1 ⟨rfl, hq⟩
          exact ⟨rfl, hq⟩
      | cond c x y =>
        simp only [evT, frc_eq] at h
        split at h
        · rename_i z hc
          cases z <;> simp only [cond_true, cond_false] at h
          all_goals
            obtain ⟨e, st', hk, hlo, hs⟩ := ih _ _ _ h
            exact ⟨e, st', hk, hlo, fun a Hr w hR hO => wp_cond (cond_bool hR hc) (hs a Hr w hR hO)⟩
        · rename_i z hc
          split at h
          · rename_i d ds hds
            obtain ⟨rfl, h⟩ := h
            cases z <;> simp only [cond_true, cond_false] at h
            all_goals
              obtain ⟨e, st', hk, hlo, hs⟩ := ih _ _ _ h
              exact ⟨e, st', hk, hlo, fun a Hr w hR hO => wp_cond (cond_bool hR hc) (hs a Hr w (refine_sound hR hc) hO)⟩
          · exact h.elim
        · exact h.elim
      | block id c =>
        simp only [evT, frc_eq] at h
        obtain ⟨e1, st1, h1, hlo1, h2⟩ := ih _ _ _ h
        cases e1 <;> simp only [frc_eq] at h1
        case exit j =>
          cases hj : Nat.beq j id <;> simp only [hj, cond_true, cond_false] at h1
          · refine ⟨.exit j, st1, h1, hlo1, fun a Hr w hR hO => wp_block (wp_mono (h2 a Hr w hR hO) ?_)⟩
            rintro e' a1 w1 ⟨rfl, hq⟩
            have : j ≠ id := Nat.ne_of_beq_eq_false hj
            simp only [AExit.real, Exit.inBlock, if_neg this]
            exact ⟨rfl, hq⟩
          · refine ⟨.normal, st1, h1, hlo1, fun a Hr w hR hO => wp_block (wp_mono (h2 a Hr w hR hO) ?_)⟩
            rintro e' a1 w1 ⟨rfl, hq⟩
            have := Nat.eq_of_beq_eq_true hj
            simp only [AExit.real, Exit.inBlock, if_pos this]
            exact ⟨rfl, hq⟩
        all_goals
          refine ⟨_, st1, h1, hlo1, fun a Hr w hR hO => wp_block (wp_mono (h2 a Hr w hR hO) ?_)⟩
          rintro e' a1 w1 ⟨rfl, hq⟩
          exact ⟨rfl, hq⟩
      | loop c =>
        simp only [evT, frc_eq] at h
        obtain ⟨e1, st1, h1, hlo1, h2⟩ := ih _ _ _ h
        cases e1 <;> simp only [frc_eq] at h1
        case normal =>
          obtain ⟨e, st', hk, hlo, hs⟩ := ih _ _ _ h1
          refine ⟨e, st', hk, hlo.trans hlo1, fun a Hr w hR hO b k cs => ?_⟩
          obtain ⟨e', a1, w1, ⟨rfl, Hr1, hR1, hO1, hS1⟩, harr⟩ := h2 a Hr w hR hO b (.inLoop c :: k) cs
          obtain ⟨e2, a2, w2, hq, harr2⟩ := hs a1 Hr1 w1 hR1 hO1 b k cs
          rw [hlo1] at hq
          exact ⟨e2, a2, w2, hq.over hS1, .of_steps (.head step_loop harr) harr2⟩
        all_goals
          refine ⟨_, st1, h1, hlo1, fun a Hr w hR hO b k cs => ?_⟩
          obtain ⟨e', a1, w1, ⟨rfl, hq⟩, harr⟩ := h2 a Hr w hR hO b (.inLoop c :: k) cs
          exact ⟨_, a1, w1, ⟨rfl, hq⟩, .of_steps (.one step_loop) (.pass (x := .inLoop c) rfl (fun _ _ => .inl (by simp [AExit.real])) harr)⟩
      | scope c =>
        simp only [evT, frc_eq] at h
        obtain ⟨e, st', hk, hlo, hs⟩ := ih _ _ _ h
        refine ⟨e, st', hk, hlo, fun a Hr w hR hO b k cs => ?_⟩
        obtain ⟨e', a1, w1, hq, harr⟩ := hs a Hr w hR hO b k cs
        exact ⟨e', a1, w1, hq, .of_steps (.one step_scope) harr⟩
      | _ => exact h.elim

/-- THE LAW: what is carried out on values is what the machine answers; what lay there is not changed. -/
theorem ev_calls_rd {E : Env} (hE : EnvOK E) (n : Nat) {f : FuncId} {args : List AV} {r : AV} {V : Value} {ds : List Bool} {wr : Nat → Bool} (h : evCall E n f args ⟨[], ds, wr⟩ (fun v _ => v = r)) (hV : r.told? = some V) {Args : List Value} (ha : RelL E.rows [] args Args) (w : World) (hd : Rd E.rows [] w) :
    Calls E.P f Args.toArray w fun e w' => e = .returned V ∧ Below w.heap.size w w' := by
  obtain ⟨v, m', rfl, hlo, hen, hc⟩ := call_ok hE (ev_sound hE n) f args _ _ h
  refine (hc [] w Args ha .nil Apart.nil ⟨OwnM.nil _, hd⟩).mono ?_
  rintro e w' ⟨V', Hr', rfl, hr, _, _, _, hS⟩
  refine ⟨by rw [hr.told hV], hS.os, hS.tape, hS.output, hS.size, fun k hk => hS.block k hk (by simp [nums])⟩
def noRows : Rws := fun _ => none
theorem rd_no (nb : List Nat) (w : World) : Rd noRows nb w := fun j r h => by cases h
theorem rwOK_no : RwOK noRows := ⟨fun j r h => (by cases h), fun j r h => (by cases h), fun j r h => (by cases h), fun j r h => (by cases h), fun j r h => (by cases h)⟩
theorem ev_calls {E : Env} (hE : EnvOK E) (n : Nat) {f : FuncId} {args : List AV} {r : AV} {V : Value} {ds : List Bool} {wr : Nat → Bool} (h : evCall E n f args ⟨[], ds, wr⟩ (fun v _ => v = r)) (hV : r.told? = some V) {Args : List Value} (ha : RelL E.rows [] args Args) (hr : E.rows = noRows) (w : World) :
    Calls E.P f Args.toArray w fun e w' => e = .returned V ∧ Below w.heap.size w w' := ev_calls_rd hE n h hV ha w (by rw [hr]; exact rd_no _ _)
end
end Go.Proofs.Ytcfomhnfhalmaaa
end

section
set_option linter.unusedVariables false
set_option linter.unusedSimpArgs false
namespace Go.Proofs.Ytcfomhnfhalmaaa
open Go.RowKit

/-- A part of a word. -/
@[irreducible] def L (x : BitVec 256) (i : Nat) : Int := ((x.toNat / 2 ^ (64 * i) % 2 ^ 64 : Nat) : Int)
abbrev W (x : BitVec 256) : Value := .agg #[.int .u64 (L x 0), .int .u64 (L x 1), .int .u64 (L x 2), .int .u64 (L x 3)]

theorem L_eq (x : BitVec 256) (i : Nat) : L x i = ((x.toNat / 2 ^ (64 * i) % 2 ^ 64 : Nat) : Int) := by unfold L; rfl
theorem L_lo (x : BitVec 256) (i : Nat) : 0 ≤ L x i := by rw [L_eq]; omega
theorem L_hi (x : BitVec 256) (i : Nat) : L x i < 18446744073709551616 := by rw [L_eq]; omega
theorem L0 (x : BitVec 256) : L x 0 = ((x.toNat % 18446744073709551616 : Nat) : Int) := by rw [L_eq]; simp
theorem L1 (x : BitVec 256) : L x 1 = ((x.toNat / 18446744073709551616 % 18446744073709551616 : Nat) : Int) := by rw [L_eq]
theorem L2 (x : BitVec 256) : L x 2 = ((x.toNat / 340282366920938463463374607431768211456 % 18446744073709551616 : Nat) : Int) := by rw [L_eq]
theorem L3 (x : BitVec 256) : L x 3 = ((x.toNat / 6277101735386680763835789423207666416102355444464034512896 : Nat) : Int) := by
  rw [L_eq]; have := x.isLt; simp only [Nat.reduceMul, Nat.reducePow] at *; omega
theorem L_sum (x : BitVec 256) : (x.toNat : Int) = L x 0 + L x 1 * 18446744073709551616 + L x 2 * 340282366920938463463374607431768211456 + L x 3 * 6277101735386680763835789423207666416102355444464034512896 := by
  rw [L0, L1, L2, L3]; omega

theorem L_ext {x y : BitVec 256} (h0 : L x 0 = L y 0) (h1 : L x 1 = L y 1) (h2 : L x 2 = L y 2) (h3 : L x 3 = L y 3) : x = y := by
  apply BitVec.eq_of_toNat_eq
  have hx := L_sum x
  have hy := L_sum y
  rw [h0, h1, h2, h3] at hx
  omega

/-- A sum of parts, with what is carried. -/
@[irreducible] def aLo (x y c : Int) : Int := (x + y + c) % 18446744073709551616
@[irreducible] def aHi (x y c : Int) : Int := (x + y + c) / 18446744073709551616
theorem aLo_eq (x y c : Int) : aLo x y c = (x + y + c) % 18446744073709551616 := by unfold aLo; rfl
theorem aHi_eq (x y c : Int) : aHi x y c = (x + y + c) / 18446744073709551616 := by unfold aHi; rfl
theorem aHi_lo {x y c : Int} (hx : 0 ≤ x) (hy : 0 ≤ y) (hc : 0 ≤ c) : 0 ≤ aHi x y c := by rw [aHi_eq]; omega
theorem aHi_hi {x y c : Int} (hx : x < 18446744073709551616) (hy : y < 18446744073709551616) (hc : c ≤ 1) : aHi x y c ≤ 1 := by rw [aHi_eq]; omega
/-- What is carried into the parts 1, 2, 3 of a sum. -/
def c1 (x y : BitVec 256) : Int := aHi (L x 0) (L y 0) 0
def c2 (x y : BitVec 256) : Int := aHi (L x 1) (L y 1) (c1 x y)
def cc3 (x y : BitVec 256) : Int := aHi (L x 2) (L y 2) (c2 x y)
theorem c1_bd (x y : BitVec 256) : 0 ≤ c1 x y ∧ c1 x y ≤ 1 := ⟨aHi_lo (L_lo _ _) (L_lo _ _) (by omega), aHi_hi (L_hi _ _) (L_hi _ _) (by omega)⟩
theorem c2_bd (x y : BitVec 256) : 0 ≤ c2 x y ∧ c2 x y ≤ 1 := ⟨aHi_lo (L_lo _ _) (L_lo _ _) (c1_bd x y).1, aHi_hi (L_hi _ _) (L_hi _ _) (c1_bd x y).2⟩
theorem c3_bd (x y : BitVec 256) : 0 ≤ cc3 x y ∧ cc3 x y ≤ 1 := ⟨aHi_lo (L_lo _ _) (L_lo _ _) (c2_bd x y).1, aHi_hi (L_hi _ _) (L_hi _ _) (c2_bd x y).2⟩

/-- Parts that add up to a word are its parts. -/
theorem parts_of {z : BitVec 256} {a b c d : Int} (ha : 0 ≤ a ∧ a ≤ 18446744073709551615) (hb : 0 ≤ b ∧ b ≤ 18446744073709551615) (hc : 0 ≤ c ∧ c ≤ 18446744073709551615) (hd : 0 ≤ d ∧ d ≤ 18446744073709551615)
    (h : (z.toNat : Int) = a + b * 18446744073709551616 + c * 340282366920938463463374607431768211456 + d * 6277101735386680763835789423207666416102355444464034512896) : a = L z 0 ∧ b = L z 1 ∧ c = L z 2 ∧ d = L z 3 := by
  rw [L0, L1, L2, L3]
  refine ⟨?_, ?_, ?_, ?_⟩ <;> omega
theorem aSplit (x y c : Int) : aLo x y c + aHi x y c * 18446744073709551616 = x + y + c ∧ 0 ≤ aLo x y c ∧ aLo x y c ≤ 18446744073709551615 := by
  rw [aLo_eq, aHi_eq]; omega
theorem add_parts (x y : BitVec 256) : aLo (L x 0) (L y 0) 0 = L (x + y) 0 ∧ aLo (L x 1) (L y 1) (c1 x y) = L (x + y) 1 ∧ aLo (L x 2) (L y 2) (c2 x y) = L (x + y) 2 ∧ aLo (L x 3) (L y 3) (cc3 x y) = L (x + y) 3 := by
  have hx := L_sum x; have hy := L_sum y
  have hs : (x + y).toNat = (x.toNat + y.toNat) % 115792089237316195423570985008687907853269984665640564039457584007913129639936 := by rw [BitVec.toNat_add]
  have s0 := aSplit (L x 0) (L y 0) 0
  have s1 := aSplit (L x 1) (L y 1) (c1 x y)
  have s2 := aSplit (L x 2) (L y 2) (c2 x y)
  have s3 := aSplit (L x 3) (L y 3) (cc3 x y)
  have e1 : aHi (L x 0) (L y 0) 0 = c1 x y := rfl
  have e2 : aHi (L x 1) (L y 1) (c1 x y) = c2 x y := rfl
  have e3 : aHi (L x 2) (L y 2) (c2 x y) = cc3 x y := rfl
  have k4 : 0 ≤ aHi (L x 3) (L y 3) (cc3 x y) ∧ aHi (L x 3) (L y 3) (cc3 x y) ≤ 1 := ⟨aHi_lo (L_lo _ _) (L_lo _ _) (c3_bd x y).1, aHi_hi (L_hi _ _) (L_hi _ _) (c3_bd x y).2⟩
  rw [e1] at s0; rw [e2] at s1; rw [e3] at s2
  refine parts_of s0.2 s1.2 s2.2 s3.2 ?_
  have := x.isLt; have := y.isLt
  omega

@[irreducible] def sHi (x y c : Int) : Int := if x < y + c then 1 else 0
def d1 (x y : BitVec 256) : Int := sHi (L x 0) (L y 0) 0
def d2 (x y : BitVec 256) : Int := sHi (L x 1) (L y 1) (d1 x y)
def d3 (x y : BitVec 256) : Int := sHi (L x 2) (L y 2) (d2 x y)
end Go.Proofs.Ytcfomhnfhalmaaa
end

section
set_option linter.unusedVariables false
set_option linter.unusedSimpArgs false
namespace Go.Proofs.Ytcfomhnfhalmaaa
open Go.RowKit

section
/-- What is computed is what is wanted. -/
structure Is (p : Prop) : Prop where
  is : p
/-- So much must come out so. -/
def allE : List (Bool × Bool) → Prop → Prop
  | [], p => p
  | (b, c) :: r, p => b = c ∧ allE r p
def AllE : List (Bool × Bool) → Prop
  | [] => True
  | (b, c) :: r => b = c ∧ AllE r
theorem allE_of : ∀ {l : List (Bool × Bool)} {p : Prop}, AllE l → p → allE l p
  | [], _, _, h => h
  | (_, _) :: _, _, ⟨h, hs⟩, hp => ⟨h, allE_of hs hp⟩
def mkW (a b c d : BitVec 64) : BitVec 256 := BitVec.ofNat 256 (a.toNat + 18446744073709551616 * b.toNat + 340282366920938463463374607431768211456 * c.toNat + 6277101735386680763835789423207666416102355444464034512896 * d.toNat)
def asB64 (v : AV) : Option (BitVec 64) := v.asBv .u64
def asW : AV → Option (BitVec 256)
  | .agg [c0, c1, c2, c3] => match asB64 c0, asB64 c1, asB64 c2, asB64 c3 with
    | some a, some b, some c, some d => some (mkW a b c d)
    | _, _, _, _ => none
  | _ => none
abbrev CtrF := List AV → Mem → Option VC
section
variable {R : Rws}
def lookF : List (Nat × CtrF) → Nat → Option CtrF
  | [], _ => none
  | (g, F) :: r, f => bif Nat.beq f g then some F else lookF r f
theorem lookF_ok {P : Program} : ∀ {T : List (Nat × CtrF)}, (∀ p ∈ T, Good P R p.1 p.2) → ∀ f F, lookF T f = some F → Good P R f F
  | [], _, _, _, h => by cases h
  | (g, F) :: r, hT, f, F', h => by
    unfold lookF at h
    cases hb : Nat.beq f g <;> simp only [hb, cond_true, cond_false] at h
    · exact lookF_ok (fun p hp => hT p (List.mem_cons_of_mem _ hp)) f F' h
    · cases h; rw [Nat.eq_of_beq_eq_true hb]; exact hT _ (List.mem_cons_self ..)
theorem good_cons {P : Program} {p : Nat × CtrF} {T : List (Nat × CtrF)} (h : Good P R p.1 p.2) (hT : ∀ p ∈ T, Good P R p.1 p.2) : ∀ q ∈ p :: T, Good P R q.1 q.2 := fun q hq => by
  rcases List.mem_cons.1 hq with rfl | hq
  · exact h
  · exact hT q hq
theorem good_nil {P : Program} : ∀ q ∈ ([] : List (Nat × CtrF)), Good P R q.1 q.2 := fun q hq => by cases hq
section
variable {P : Program} {f : FuncId} (hen : Enters P f)
def ctr0 (r : AV) : CtrF
  | [], _ => some (r, [])
  | _, _ => none
theorem ctr0_ok {r : AV} {V : Value} (hen : Enters P f) (hV : r.told? = some V) (h : ∀ w, Calls P f #[] w fun e w' => e = .returned V ∧ Below w.heap.size w w') : Good P R f (ctr0 r) := by
  refine ⟨hen, fun args H v cs hv _ => ?_⟩
  unfold ctr0 at hv
  split at hv
  · cases hv; exact ⟨V, hV, fun Hr Args ha _ _ w _ => by cases ha; exact h w⟩
  · cases hv
end
end
theorem allE_nil : AllE [] := trivial
theorem allE_cons {b c : Bool} {r : List (Bool × Bool)} (h : b = c) (hs : AllE r) : AllE ((b, c) :: r) := ⟨h, hs⟩
end

section
variable {D : List Deferred} {R : Rws}

/-! ### States of which only what is wanted is known. -/
def look (i : Nat) : List (Nat × AV) → Option AV
  | [] => none
  | (j, v) :: r => bif Nat.beq i j then some v else look i r
def pat (live : List (Nat × AV)) (r : Nat → Value) : Nat → Nat → List AV
  | _, 0 => []
  | i, n + 1 => (match look i live with | some v => v | none => .raw (r i)) :: pat live r (i + 1) n
def Lives (tl : List AV) (live : List (Nat × AV)) : Prop := ∀ i v, look i live = some v → tl[i]? = some v
theorem pat_rel {ρ : Nums} {live : List (Nat × AV)} {vs : List Value} : ∀ {tl : List AV} {i : Nat}, RelL R ρ tl (vs.drop i) → (∀ k v, look (i + k) live = some v → tl[k]? = some v) → RelL R ρ (pat live (fun i => vs.getD i undef) i tl.length) (vs.drop i)
  | [], i, h, _ => by
    generalize hd : vs.drop i = d at h
    cases h
    exact .nil
  | c :: cs, i, h, hl => by
    rcases hd : vs.drop i with _ | ⟨v, r⟩
    · rw [hd] at h; cases h
    · rw [hd] at h
      cases h with | cons h hs =>
      have hr : vs.drop (i + 1) = r := by rw [← List.tail_drop, hd]; rfl
      have hv : vs[i]? = some v := by rw [← List.head?_drop, hd]; rfl
      have ih := pat_rel (tl := cs) (i := i + 1) (by rw [hr]; exact hs) (fun k u hu => by have := hl (k + 1) u (by rw [← hu]; congr 1; omega); simpa using this)
      rw [hr] at ih
      refine .cons ?_ ih
      split
      · rename_i u hu
        have := hl 0 u hu
        simp at this
        subst this; exact h
      · have e : vs.getD i undef = v := by simp [List.getD, hv]
        show Rel R ρ (.raw (vs.getD i undef)) v
        rw [e]; exact .raw
theorem pat_of {ρ : Nums} {tl : List AV} {vs : List Value} (h : RelL R ρ tl vs) {live : List (Nat × AV)} (hl : Lives tl live) : ∃ r, RelL R ρ (pat live r 0 tl.length) vs :=
  ⟨_, by simpa using pat_rel (vs := vs) (i := 0) (tl := tl) (by simpa using h) (fun k v hv => hl k v (by simpa using hv))⟩
theorem lives_of {tl : List AV} : ∀ {live : List (Nat × AV)}, live.map (fun p => tl[p.1]?) = live.map (fun p => some p.2) → Lives tl live
  | [], _, i, v, h => by cases h
  | (j, u) :: r, he, i, v, h => by
    simp only [List.map_cons, List.cons.injEq] at he
    unfold look at h
    cases hb : Nat.beq i j <;> simp only [hb, cond_true, cond_false] at h
    · exact lives_of he.2 i v h
    · rw [Nat.eq_of_beq_eq_true hb]; cases h; exact he.1
def PatSt (R : Rws) (D : List Deferred) (live : List (Nat × AV)) (n : Nat) (m : AM) (a : Act) (Hr : List RBlk) : Prop := ∃ r, RelSt R D ⟨pat live r 0 n, m⟩ a Hr
theorem pat_len (live : List (Nat × AV)) (r : Nat → Value) : ∀ i n, (pat live r i n).length = n
  | _, 0 => rfl
  | i, n + 1 => by unfold pat; rw [List.length_cons, pat_len]
theorem patSt_of {live live' : List (Nat × AV)} {n : Nat} {st : ASt} {a : Act} {Hr : List RBlk} (h : RelSt R D st a Hr) (hn : st.tl.length = n) (hl : Lives st.tl live') : PatSt R D live' n st.m a Hr := by
  obtain ⟨vs, rfl, ht, hB, hnd⟩ := h
  subst hn
  obtain ⟨r, hr⟩ := pat_of ht hl
  exact ⟨r, vs, rfl, hr, hB, hnd⟩

/-! ### What is known of the world beside. -/
def markD (D : Nat) : Deferred := { target := .collected D, args := #[] }
structure Bun (R : Rws) (Ds : List Nat) (n0 : Nat) (w0 : World) (H : Mem) (Hr : List RBlk) (w : World) : Prop where
  own : OwnK R H Hr w
  marks : ∀ D ∈ Ds, w.heap[D]? = some (.deferred (some [])) ∧ D ∉ bs (nums Hr) ∧ n0 ≤ D
  nodup : Ds.Nodup
  fresh : ∀ q ∈ nums Hr, q.ph = false → n0 ≤ q.b
  below : Below n0 w0 w
  size : n0 ≤ w.heap.size
theorem Bun.stp {Ds : List Nat} {n0 : Nat} {w0 : World} {H H' : Mem} {Hr Hr' : List RBlk} {w w' : World} {wr : Nat → Bool} (h : Bun R Ds n0 w0 H Hr w) (hO : OwnK R H' Hr' w') (hS : Stp wr Hr w Hr' w') : Bun R Ds n0 w0 H' Hr' w' := by
  obtain ⟨σ, e1, n1⟩ := hS.ext
  have hs := h.size
  have hmem : ∀ {b : Nat}, b ∉ bs (nums Hr) → b < w.heap.size → b ∉ bs (nums Hr') := fun {b} h2 hl hm => by
    rw [e1, bs_append] at hm
    rcases List.mem_append.1 hm with hm | hm
    · exact h2 hm
    · obtain ⟨q, hq, hqp, hqb⟩ := mem_bs.1 hm
      rcases n1 q hq hqp with h4 | ⟨l, p, x1, x0, x2, _⟩
      · omega
      · exact h2 (mem_bs.2 ⟨p, List.mem_of_getElem? x1, x0, x2.trans hqb⟩)
  refine ⟨hO, fun D hD => ?_, h.nodup, fun q hq hqp => ?_, ?_, Nat.le_trans h.size hS.size⟩
  · obtain ⟨h1, h2, h3⟩ := h.marks D hD
    have hl := (Array.getElem?_eq_some_iff.1 h1).1
    exact ⟨(hS.block D hl (fun l q hl hqp hq => absurd (mem_bs.2 ⟨q, List.mem_of_getElem? hl, hqp, hq⟩) h2)).trans h1, hmem h2 hl, h3⟩
  · rw [e1] at hq
    rcases List.mem_append.1 hq with hq | hq
    · exact h.fresh q hq hqp
    · rcases n1 q hq hqp with h4 | ⟨l, p, x1, x0, x2, _⟩
      · omega
      · rw [← x2]; exact h.fresh p (List.mem_of_getElem? x1) x0
  · refine h.below.trans ⟨hS.os, hS.tape, hS.output, hS.size, fun k hk => hS.block k (by omega) fun l q hl hqp hq => ?_⟩
    have := h.fresh q (List.mem_of_getElem? hl) hqp
    omega
/-! ### Pieces of code. -/
theorem ev_eq {α : Type} (l : List (Bool × Bool)) (r : α) {p : Prop} (h : p = allE l (r = r)) (hl : AllE l) : Is p := ⟨h ▸ allE_of hl rfl⟩
def isNorm : AExit → Bool
  | .normal => true
  | _ => false
def chK (live : List (Nat × AV)) (n : Nat) (H : Mem) (ds : List Bool) : AExit → ASt → Prop := fun e st =>
  (isNorm e, st.tl.length, live.map (fun p => st.tl[p.1]?), st.m.H, st.m.ds) = (true, n, live.map (fun p => some p.2), H, ds)
/-- What chK says when it is so. -/
abbrev chR (live : List (Nat × AV)) (n : Nat) (H : Mem) (ds : List Bool) : Bool × Nat × List (Option AV) × Mem × List Bool := (true, n, live.map (fun p => some p.2), H, ds)
def evCs (E : Env) (nf : Nat) : List Code → ASt → (AExit → ASt → Prop) → Prop
  | [], st, K => K .normal st
  | c :: cs, st, K => evT E nf (.code c) st fun e st => match e with
    | .normal => evCs E nf cs st K
    | _ => False
def takeSeq : Nat → Code → List Code
  | k + 1, .seq x y => x :: takeSeq k y
  | _, _ => []
def dropSeq : Nat → Code → Code
  | k + 1, .seq _ y => dropSeq k y
  | _, c => c
section
variable {E : Env} (hE : EnvOK E) {Ds : List Nat} {n0 : Nat} {w0 : World}
include hE
theorem evCs_sound (nf : Nat) : ∀ (k : Nat) (c : Code) (st : ASt) (K : AExit → ASt → Prop), evCs E nf (takeSeq k c) st K → ∃ st', K .normal st' ∧ st'.m.wr = st.m.wr ∧ ∀ {D : List Deferred} a Hr w, RelSt E.rows D st a Hr → OwnK E.rows st.m.H Hr w → ∀ Q : Exit → Act → World → Prop,
    (∀ a' Hr' w', RelSt E.rows D st' a' Hr' → OwnK E.rows st'.m.H Hr' w' → Stp st.m.wr Hr w Hr' w' → (dropSeq k c).wp E.P Q a' w') → c.wp E.P Q a w
  | 0, c, st, K, h => by
    cases c <;> exact ⟨st, h, rfl, fun a Hr w hR hO Q hq => hq a Hr w hR hO (.refl _ _ _)⟩
  | k + 1, c, st, K, h => by
    cases c with
    | seq x y =>
      unfold takeSeq evCs at h
      obtain ⟨e, st1, h1, hlo1, h2⟩ := ev_sound hE nf _ _ _ h
      cases e <;> simp only at h1
      obtain ⟨st', hk, hlo, hs⟩ := evCs_sound nf k y st1 K h1
      refine ⟨st', hk, hlo.trans hlo1, fun a Hr w hR hO Q hq => wp_seq (wp_mono (h2 a Hr w hR hO) ?_)⟩
      rintro e' a1 w1 ⟨rfl, Hr1, hR1, hO1, hS1⟩
      refine hs a1 Hr1 w1 hR1 hO1 Q fun a' Hr' w' hR' hO' hS' => ?_
      rw [hlo1] at hS'
      exact hq a' Hr' w' hR' hO' (hS1.trans hS')
    | _ => exact ⟨st, h, rfl, fun a Hr w hR hO Q hq => hq a Hr w hR hO (.refl _ _ _)⟩
/-- So many statements, one behind the other. -/
theorem ev_seqs (nf k : Nat) {c : Code} {live live' : List (Nat × AV)} {n : Nat} {m : AM} {H' : Mem} {ds' : List Bool} (h : ∀ r, Is (evCs E nf (takeSeq k c) ⟨pat live r 0 n, m⟩ (chK live' n H' ds')))
    {a : Act} {Hr : List RBlk} {w : World} {Q : Exit → Act → World → Prop} (hP : PatSt E.rows D live n m a Hr) (hB : Bun E.rows Ds n0 w0 m.H Hr w)
    (hk : ∀ a' Hr' w', PatSt E.rows D live' n ⟨H', ds', m.wr⟩ a' Hr' → Bun E.rows Ds n0 w0 H' Hr' w' → Stp m.wr Hr w Hr' w' → (dropSeq k c).wp E.P Q a' w') : c.wp E.P Q a w := by
  obtain ⟨r, hR⟩ := hP
  obtain ⟨st', h1, hlo, h2⟩ := evCs_sound hE nf k c _ _ (h r).is
  refine h2 a Hr w hR hB.own Q fun a' Hr' w' hR' hO' hS => ?_
  unfold chK at h1
  simp only [Prod.mk.injEq] at h1
  obtain ⟨_, hn, hl, rfl, rfl⟩ := h1
  have hP' := patSt_of (live := live) hR' hn (lives_of hl)
  have hm : st'.m = ⟨st'.m.H, st'.m.ds, m.wr⟩ := by rw [← hlo]
  rw [hm] at hP'
  exact hk a' Hr' w' hP' (hB.stp hO' hS) hS
end
/-! ### The way in and out. -/
def inLive : Nat → List AV → List (Nat × AV)
  | _, [] => []
  | i, v :: r => (i, v) :: inLive (i + 1) r
theorem look_in {l : List AV} : ∀ {i k : Nat} {v : AV}, look k (inLive i l) = some v → i ≤ k ∧ l[k - i]? = some v := by
  induction l with
  | nil => intro i k v h; cases h
  | cons c r ih =>
    intro i k v h
    unfold inLive look at h
    cases hb : Nat.beq k i <;> simp only [hb, cond_true, cond_false] at h
    · have := ih h
      refine ⟨by omega, ?_⟩
      rw [show k - i = (k - (i + 1)) + 1 by omega]
      simpa using this.2
    · rw [Nat.eq_of_beq_eq_true hb]; cases h; simp
theorem ev_enter {E : Env} {f : FuncId} {fn : Func} {c : Code} (hf : E.P.funcs[f]? = some fn) (hb : fn.body = some c) {args : List AV} {Args : List Value} (hn : args.length ≤ fn.ntmps) (ha : RelL E.rows [] args Args) {w : World} (hd : Rd E.rows [] w) {ds : List Bool} {wr : Nat → Bool} {Q : Ending → World → Prop}
    (h : ∀ a, PatSt E.rows ([].map markD) (inLive 0 args) fn.ntmps ⟨[], ds, wr⟩ a [] → Bun E.rows [] w.heap.size w [] [] w → c.wp E.P (bodyPostM Fence.wide 0 E.P fn Q) a w) : Calls E.P f Args.toArray w Q := by
  refine calls_marks hf hb (h _ ?_ ⟨⟨OwnM.nil _, hd⟩, by simp, by simp, by simp [nums], Below.refl _ _, Nat.le_refl _⟩)
  have hl := ha.len
  have hR : RelSt E.rows [] ⟨args ++ List.replicate (fn.ntmps - args.length) undefA, ⟨[], ds, wr⟩⟩ ⟨Args.toArray ++ Array.replicate (fn.ntmps - Args.toArray.size) undef, []⟩ [] := by
    refine ⟨Args ++ List.replicate (fn.ntmps - args.length) undef, ?_, ha.append (RelL.rep .raw _), .nil, Apart.nil⟩
    congr 1
    apply Array.toList_inj.1
    simp [hl]
  exact patSt_of (live := []) hR (by simp; omega) (fun i v hv => by
    obtain ⟨_, h2⟩ := look_in hv
    simp only [Nat.sub_zero] at h2
    rw [List.getElem?_append_left (List.getElem?_eq_some_iff.1 h2).1]; exact h2)
def putsD : List Nat → World → World
  | [], w => w
  | D :: Ds, w => putsD Ds (w.putObj D (.deferred none))
theorem leave_marks {P : Program} {fn : Func} {tmps : Array Value} {Q : Ending → World → Prop} : ∀ (Ds : List Nat) (w : World), (∀ D ∈ Ds, w.heap[D]? = some (.deferred (some []))) → Ds.Nodup →
    (∃ v, (results fn tmps).run P (putsD Ds w) = .ok v (putsD Ds w) ∧ Q (.returned v) (putsD Ds w)) → LeavesInM Fence.wide 0 P fn tmps Q (Ds.map markD) .returning w
  | [], w, _, _, h => h
  | D :: Ds, w, hD, hn, h => by
    have hn' := List.nodup_cons.1 hn
    refine ⟨by simp, .inl ⟨_, _, rfl, run_takeDeferred (hD D (by simp)), ?_⟩⟩
    refine leave_marks Ds (w.putObj D (.deferred none)) (fun E hE => ?_) hn'.2 h
    exact (World.putObj_heap_other (by intro e; subst e; exact hn'.1 hE)).trans (hD E (by simp [hE]))
theorem own_putsD {H : Mem} {Hr : List RBlk} : ∀ (Ds : List Nat) {w : World}, (∀ D ∈ Ds, D ∉ bs (nums Hr)) → OwnM H Hr w → OwnM H Hr (putsD Ds w)
  | [], _, _, h => h
  | D :: Ds, w, hD, h => own_putsD Ds (fun E hE => hD E (by simp [hE])) (fun l it p h1 h2 hq => by
    obtain ⟨x1, x2⟩ := h l it p h1 h2 hq
    have hne : p.b ≠ D := fun e => hD D (by simp) (by rw [← e]; exact bs_at (nums_get h2) hq)
    exact ⟨by simpa [World.putObj] using x1, fun hl => (World.putObj_heap_other hne).trans (x2 hl)⟩)
theorem below_putsD {n : Nat} {w0 : World} : ∀ (Ds : List Nat) {w : World}, (∀ D ∈ Ds, n ≤ D) → Below n w0 w → Below n w0 (putsD Ds w)
  | [], _, _, h => h
  | D :: Ds, w, hD, h => below_putsD Ds (fun E hE => hD E (by simp [hE])) (Below.put h _ (hD D (by simp)))
/-- Rows lie apart from marks: they are below, or kept. -/
theorem rd_putsD {nb : List Nat} : ∀ (Ds : List Nat) {w : World}, (∀ D ∈ Ds, w.heap[D]? = some (.deferred (some []))) → Ds.Nodup → RwOK R → Rd R nb w → (∀ j r, R j = some r → 0 < r.n → 0 < (r.V 0).length) → Rd R nb (putsD Ds w)
  | [], _, _, _, _, h, _ => h
  | D :: Ds, w, hD, hn, hR, h, hp => by
    have hn' := List.nodup_cons.1 hn
    refine rd_putsD Ds (fun E hE => (World.putObj_heap_other (by intro e; subst e; exact hn'.1 hE)).trans (hD E (by simp [hE]))) hn'.2 hR (fun j r hj b off ha h0 => ?_) hp
    obtain ⟨h1, h2, h3⟩ := h j r hj b off ha h0
    have hne : b ≠ D := by
      intro e; subst e
      have hl := hp j r hj h0
      have hc := h3 0 h0 0 ((r.V 0)[0]) (by simp [hl])
      have := hD b (by simp)
      simp [World.cell?, this] at hc
    have hbk : (w.putObj D (.deferred none)).heap[b]? = w.heap[b]? := World.putObj_heap_other hne
    exact ⟨h1, by simpa [World.putObj] using h2, fun i hi q u hu => (World.cell?_of_block (a := ⟨b, off + i * r.s + q, none⟩) hbk).trans (h3 i hi q u hu)⟩
def retK (E : Env) (fn : Func) (r : AV) : AExit → ASt → Prop
  | .ret, st | .normal, st => resA E.P E.rows st.m.H st.tl fn.results.toList = some [r]
  | _, _ => False
/-- The rest of a function. -/
theorem ev_rest {E : Env} (hE : EnvOK E) (nf : Nat) {c : Code} {live : List (Nat × AV)} {n : Nat} {m : AM} {r : AV} {V : Value} {fn : Func} (h : ∀ rs, Is (evT E nf (.code c) ⟨pat live rs 0 n, m⟩ (retK E fn r))) (hV : r.told? = some V)
    (hp : ∀ j r, E.rows j = some r → 0 < r.n → 0 < (r.V 0).length)
    {a : Act} {Hr : List RBlk} {w w0 : World} {Ds : List Nat} {n0 : Nat} (hP : PatSt E.rows (Ds.map markD) live n m a Hr) (hB : Bun E.rows Ds n0 w0 m.H Hr w) :
    c.wp E.P (bodyPostM Fence.wide 0 E.P fn (fun e w' => e = .returned V ∧ Below n0 w0 w')) a w := by
  obtain ⟨rs, hR⟩ := hP
  obtain ⟨e, st', hk, hlo, hs⟩ := ev_sound hE nf (.code c) _ _ (h rs).is
  refine wp_mono (hs a Hr w hR hB.own) ?_
  rintro e' a' w' ⟨rfl, Hr', hR', hO', hS⟩
  have hB' := hB.stp hO' hS
  have key : ∀ {e' : Exit}, (e' = .ret ∨ e' = .normal) → resA E.P E.rows st'.m.H st'.tl fn.results.toList = some [r] → bodyPostM Fence.wide 0 E.P fn (fun e w' => e = .returned V ∧ Below n0 w0 w') e' a' w' := by
    intro e' he hvs
    have hd : a'.defers = Ds.map markD := by obtain ⟨tv, rfl, _⟩ := hR'; rfl
    obtain ⟨V', hv, hres⟩ := results_sound hE.rows hR' hvs
    have hVV : V' = V := hv.told hV
    subst hVV
    have := leave_marks (P := E.P) (fn := fn) (tmps := a'.tmps) (Q := fun e w' => e = .returned V' ∧ Below n0 w0 w') Ds w' (fun D hD => (hB'.marks D hD).1) hB'.nodup
      ⟨V', hres _ ⟨own_putsD Ds (fun D hD => (hB'.marks D hD).2.1) hO'.1, rd_putsD Ds (fun D hD => (hB'.marks D hD).1) hB'.nodup hE.rows hO'.2 hp⟩, rfl, below_putsD Ds (fun D hD => (hB'.marks D hD).2.2) hB'.below⟩
    rw [← hd] at this
    rcases he with rfl | rfl <;> exact this
  cases e <;> simp only [retK] at hk
  · exact key (.inr rfl) hk
  · exact key (.inl rfl) hk
end

section
variable {D : List Deferred} {R : Rws}
theorem set_get {H : Mem} {l : Nat} {it : AIt} {k : Nat} {jt : AIt} (h : (H.set l it)[k]? = some jt) : (k = l ∧ jt = it) ∨ (k ≠ l ∧ H[k]? = some jt) := by
  by_cases e : l = k
  · subst e
    have hlt : l < H.length := by have := (List.getElem?_eq_some_iff.1 h).1; simpa using this
    rw [List.getElem?_set_self hlt] at h
    cases h; exact .inl ⟨rfl, rfl⟩
  · rw [List.getElem?_set_ne e] at h
    exact .inr ⟨Ne.symm e, h⟩
theorem own_same {H : Mem} {Hr : List RBlk} {w : World} {l : Nat} {it it' : AIt} (h : OwnM H Hr w) (hl : H[l]? = some it) (hv : it.live = true) : OwnM (H.set l it') Hr w := fun k jt p h1 h2 hq => by
  rcases set_get h1 with ⟨rfl, rfl⟩ | ⟨_, h3⟩
  · obtain ⟨a, b⟩ := h k it p hl h2 hq
    exact ⟨a, fun _ => b hv⟩
  · exact h k jt p h3 h2 hq
theorem apart_same {H : Mem} {Hr : List RBlk} {l : Nat} {it it' : AIt} (h : Apart H Hr) (hl : H[l]? = some it) (hv : it.live = true) (ho : it'.owner l = it.owner l) : Apart (H.set l it') Hr := fun k m jt kt p q hne h1 h2 v1 v2 q1 q2 z1 z2 hb => by
  rcases set_get h1 with ⟨rfl, rfl⟩ | ⟨_, h3⟩ <;> rcases set_get h2 with ⟨rfl, rfl⟩ | ⟨_, h4⟩
  · exact absurd rfl hne
  · rw [ho]; exact h k m it kt p q hne hl h4 hv v2 q1 q2 z1 z2 hb
  · rw [ho]; exact h k m jt it p q hne h3 hl v1 hv q1 q2 z1 z2 hb
  · exact h k m jt kt p q hne h3 h4 v1 v2 q1 q2 z1 z2 hb
theorem relB_same {ρ : Nums} {H : Mem} {Hr : List RBlk} {l : Nat} {it it' : AIt} (h : RelB R ρ H Hr) (hl : H[l]? = some it) (hi : ∀ p, RelI R ρ it p → RelI R ρ it' p) : RelB R ρ (H.set l it') Hr := ⟨by simp [h.1], fun k jt p h1 h2 => by
  rcases set_get h1 with ⟨rfl, rfl⟩ | ⟨_, h3⟩
  · exact hi p (h.2 k it p hl h2)
  · exact h.2 k jt p h3 h2⟩
theorem bun_cells {Ds : List Nat} {n0 : Nat} {w0 : World} {l : Nat} {H : Mem} {cs cs' : List AV} {t : TypeId} {Hr : List RBlk} {w : World} (hl : H[l]? = some (.cells cs t)) (h : Bun R Ds n0 w0 H Hr w) : Bun R Ds n0 w0 (H.set l (.cells cs' t)) Hr w :=
  ⟨⟨own_same h.own.1 hl rfl, h.own.2⟩, h.marks, h.nodup, h.fresh, h.below, h.size⟩
end

section
variable {D : List Deferred} {R : Rws}

mutual
def bddA (n : Nat) : AV → Bool
  | .ptr l _ => Nat.blt l n
  | .slice l _ _ _ => Nat.blt l n
  | .gsl _ l _ _ => Nat.blt l n
  | .gptr l _ _ => Nat.blt l n
  | .mp l => Nat.blt l n
  | .func _ cs => bddL n cs
  | .meth _ fs cs => bddL n fs && bddL n cs
  | .agg cs => bddL n cs
  | .tuple cs => bddL n cs
  | _ => true
def bddL (n : Nat) : List AV → Bool
  | [] => true
  | c :: r => bddA n c && bddL n r
end
theorem app_left {ρ σ : Nums} {l : Nat} {b : Num} (h : (ρ ++ σ)[l]? = some b) (hl : Nat.blt l ρ.length = true) : ρ[l]? = some b := by
  rw [Nat.blt_eq] at hl
  rwa [List.getElem?_append_left hl] at h
mutual
theorem Rel.shrink {ρ σ : Nums} : ∀ {v : AV} {V : Value}, bddA ρ.length v = true → Rel R (ρ ++ σ) v V → Rel R ρ v V
  | _, _, _, .bool => .bool
  | _, _, _, .int => .int
  | _, _, _, .bv h => .bv h
  | _, _, hb, .ptr h => .ptr (app_left h (by simpa [bddA] using hb))
  | _, _, hb, .slice h => .slice (app_left h (by simpa [bddA] using hb))
  | _, _, hb, .func h => .func (RelL.shrink (by simpa [bddA] using hb) h)
  | _, _, hb, .agg h => .agg (RelL.shrink (by simpa [bddA] using hb) h)
  | _, _, hb, .tuple h => .tuple (RelL.shrink (by simpa [bddA] using hb) h)
  | _, _, _, .raw => .raw
  | _, _, _, .rsl h hc => .rsl h hc
  | _, _, _, .rptr h ha hi => .rptr h ha hi
  | _, _, _, .xsl h hn hc ha => .xsl h hn hc ha
  | _, _, hb, .gsl h hn ha hk hm => .gsl (app_left h (by simpa [bddA] using hb)) hn ha hk hm
  | _, _, hb, .gptr h => .gptr (app_left h (by simpa [bddA] using hb))
  | _, _, hb, .mp h => .mp (app_left h (by simpa [bddA] using hb))
  | _, _, hb, .meth h k => .meth (RelL.shrink (by simp [bddA] at hb; exact hb.1) h) (RelL.shrink (by simp [bddA] at hb; exact hb.2) k)
  | _, _, _, .junk => .junk
  | _, _, _, .str => .str
theorem RelL.shrink {ρ σ : Nums} : ∀ {v : List AV} {V : List Value}, bddL ρ.length v = true → RelL R (ρ ++ σ) v V → RelL R ρ v V
  | _, _, _, .nil => .nil
  | _, _, hb, .cons h hs => by
    simp only [bddL, Bool.and_eq_true] at hb
    exact .cons (Rel.shrink hb.1 h) (RelL.shrink hb.2 hs)
end
def memN (l : Nat) : List Nat → Bool
  | [] => false
  | x :: r => Nat.beq l x || memN l r
def isRg : Code → Bool
  | .block _ (.rangeFunc _ _ _ _) => true
  | _ => false
def isSq : Code → Bool
  | .seq _ _ => true
  | _ => false
def sL : Code → Code
  | .seq x _ => x
  | _ => .skip
def sR : Code → Code
  | .seq _ y => y
  | _ => .skip
theorem wp_parts {P : Program} {c : Code} {Q : Exit → Act → World → Prop} {a : Act} {w : World} (hc : isSq c = true) (h : (sL c).wp P (Exit.then ((sR c).wp P Q) Q) a w) : c.wp P Q a w := by
  unfold isSq at hc
  split at hc
  · exact wp_seq h
  · cases hc
end

section
section
variable {D : List Deferred} {R R2 : Rws}
mutual
theorem Rel.rows {ρ : Nums} (hx : ∀ j r, R j = some r → R2 j = some r) : ∀ {v : AV} {V : Value}, Rel R ρ v V → Rel R2 ρ v V
  | _, _, .bool => .bool
  | _, _, .int => .int
  | _, _, .bv h => .bv h
  | _, _, .ptr h => .ptr h
  | _, _, .slice h => .slice h
  | _, _, .func h => .func (RelL.rows hx h)
  | _, _, .agg h => .agg (RelL.rows hx h)
  | _, _, .tuple h => .tuple (RelL.rows hx h)
  | _, _, .raw => .raw
  | _, _, .rsl h hc => .rsl (hx _ _ h) hc
  | _, _, .rptr h ha hi => .rptr (hx _ _ h) ha hi
  | _, _, .xsl h hn hc ha => .xsl (hx _ _ h) hn hc ha
  | _, _, .gsl h hn ha hk hm => .gsl h hn ha hk hm
  | _, _, .gptr h => .gptr h
  | _, _, .mp h => .mp h
  | _, _, .meth h k => .meth (RelL.rows hx h) (RelL.rows hx k)
  | _, _, .junk => .junk
  | _, _, .str => .str
theorem RelL.rows {ρ : Nums} (hx : ∀ j r, R j = some r → R2 j = some r) : ∀ {v : List AV} {V : List Value}, RelL R ρ v V → RelL R2 ρ v V
  | _, _, .nil => .nil
  | _, _, .cons h hs => .cons (Rel.rows hx h) (RelL.rows hx hs)
end
/-- A variable that stands for something else too. -/
theorem PatSt.swap {live : List (Nat × AV)} {n d : Nat} {m : AM} {a : Act} {Hr : List RBlk} {V : Value} {v : AV} (h : PatSt R D ((d, .raw V) :: live) n m a Hr) (hv : Rel R (nums Hr) v V) : PatSt R D ((d, v) :: live) n m a Hr := by
  obtain ⟨r, vs, e, ht, hB, hn⟩ := h
  refine ⟨r, vs, e, ?_, hB, hn⟩
  have key : ∀ (k i : Nat) (us : List Value), RelL R (nums Hr) (pat ((d, .raw V) :: live) r i k) us → RelL R (nums Hr) (pat ((d, v) :: live) r i k) us := by
    intro k
    induction k with
    | zero => intro i us h; unfold pat at h ⊢; exact h
    | succ k ih =>
      intro i us h
      unfold pat at h ⊢
      cases h with | cons h1 h2 =>
      refine .cons ?_ (ih _ _ h2)
      unfold look at h1 ⊢
      cases hb : Nat.beq i d <;> simp only [hb, cond_true, cond_false] at h1 ⊢
      · exact h1
      · cases h1; exact hv
  exact key _ _ _ ht
end
def regOps : Code → List Oper
  | .region _ ops _ => ops.toList
  | _ => []
def isReg : Code → Bool
  | .region _ _ d => !d
  | _ => false
theorem wp_reg {P : Program} {c : Code} {Q : Exit → Act → World → Prop} {a : Act} {w : World} (hc : isReg c = true) (h : wpList P (regOps c).toArray Q (regOps c) a w) : c.wp P Q a w := by
  unfold isReg at hc
  split at hc
  · rename_i id ops d
    have hd : d = false := by simpa using hc
    subst hd
    simp only [regOps, Array.toArray_toList] at h
    exact wp_region_list h
  · cases hc
def isLp : Code → Bool
  | .loop _ => true
  | _ => false
def lpB : Code → Code
  | .loop c => c
  | _ => .skip
def isBk : Code → Bool
  | .block _ _ => true
  | _ => false
def bkI : Code → Nat
  | .block i _ => i
  | _ => 0
def bkB : Code → Code
  | .block _ c => c
  | _ => .skip
theorem wp_lp {P : Program} {c : Code} {Q : Exit → Act → World → Prop} {a : Act} {w : World} (n : Nat) (hc : isLp c = true) (h : Code.rounds P (lpB c) Q n a w) : c.wp P Q a w := by
  unfold isLp at hc
  split at hc
  · exact wp_loop_rounds n h
  · cases hc
theorem wp_bk {P : Program} {c : Code} {Q : Exit → Act → World → Prop} {a : Act} {w : World} (hc : isBk c = true) (h : (bkB c).wp P (Exit.inBlock (bkI c) Q) a w) : c.wp P Q a w := by
  unfold isBk at hc
  split at hc
  · exact wp_block h
  · cases hc
def eqE : AExit → AExit → Bool
  | .normal, .normal => true
  | .ret, .ret => true
  | .exit i, .exit j => Nat.beq i j
  | .goto i, .goto j => Nat.beq i j
  | _, _ => false
theorem eqE_eq {a b : AExit} (h : eqE a b = true) : a = b := by
  cases a <;> cases b <;> simp only [eqE] at h <;> first | rfl | (cases h; done) | (rw [Nat.eq_of_beq_eq_true h])
def chE (e0 : AExit) (live : List (Nat × AV)) (n : Nat) (H : Mem) (ds : List Bool) : AExit → ASt → Prop := fun e st =>
  (eqE e e0, st.tl.length, live.map (fun p => st.tl[p.1]?), st.m.H, st.m.ds) = (true, n, live.map (fun p => some p.2), H, ds)
section
variable {E : Env} (hE : EnvOK E) {Ds : List Nat} {n0 : Nat} {w0 : World}
include hE
/-- Code, however it ends. -/
theorem ev_codeE (nf : Nat) (e0 : AExit) {c : Code} {live live' : List (Nat × AV)} {n : Nat} {m : AM} {H' : Mem} {ds' : List Bool} (h : ∀ r, Is (evT E nf (.code c) ⟨pat live r 0 n, m⟩ (chE e0 live' n H' ds')))
    {a : Act} {Hr : List RBlk} {w : World} {Q : Exit → Act → World → Prop} (hP : PatSt E.rows (Ds.map markD) live n m a Hr) (hB : Bun E.rows Ds n0 w0 m.H Hr w)
    (hk : ∀ a' Hr' w', PatSt E.rows (Ds.map markD) live' n ⟨H', ds', m.wr⟩ a' Hr' → Bun E.rows Ds n0 w0 H' Hr' w' → Stp m.wr Hr w Hr' w' → Q e0.real a' w') : c.wp E.P Q a w := by
  obtain ⟨r, hR⟩ := hP
  obtain ⟨e, st', h1, hlo, hs⟩ := ev_sound hE nf (.code c) _ _ (h r).is
  refine wp_mono (hs a Hr w hR hB.own) ?_
  rintro e' a' w' ⟨rfl, Hr', hR', hO', hS⟩
  unfold chE at h1
  simp only [Prod.mk.injEq] at h1
  obtain ⟨he, hn, hl, rfl, rfl⟩ := h1
  rw [eqE_eq he]
  have hP' := patSt_of (live := live) hR' hn (lives_of hl)
  have hm : st'.m = ⟨st'.m.H, st'.m.ds, m.wr⟩ := by rw [← hlo]
  rw [hm] at hP'
  exact hk a' Hr' w' hP' (hB.stp hO' hS) hS
theorem list_sound2 {call : CallF} (hC : CallOK E call) (ops l2 : List Oper) : ∀ (l : List Oper) (st : ASt) (K : ASt → Prop), listP E call ops l st K → ∃ st', K st' ∧ st'.m.wr = st.m.wr ∧ ∀ {D : List Deferred} a Hr w, RelSt E.rows D st a Hr → OwnK E.rows st.m.H Hr w → ∀ Q : Exit → Act → World → Prop,
    (∀ a' Hr' w', RelSt E.rows D st' a' Hr' → OwnK E.rows st'.m.H Hr' w' → Stp st.m.wr Hr w Hr' w' → wpList E.P ops.toArray Q l2 a' w') → wpList E.P ops.toArray Q (l ++ l2) a w
  | [], st, K, h => ⟨st, h, rfl, fun a Hr w hR hO Q hq => hq a Hr w hR hO (.refl _ _ _)⟩
  | o :: r, st, K, h => by
    obtain ⟨st1, st2, hk, h1, h2, h3, h4⟩ := step_sound hE hC h
    obtain ⟨st', hK, hlo, hl⟩ := list_sound2 hC ops l2 r st2 K hk
    rcases h4 with ⟨hw, hd⟩ | ⟨_, hw, rfl⟩
    · refine ⟨st', hK, hlo.trans (hd.lo.trans h2), fun a Hr w hR hO Q hq => ?_⟩
      rw [List.cons_append]
      apply wpList_step
      intro Kn hKn
      rw [if_pos (hw a Hr hR)]
      refine did_seq hd (h1 a Hr hR) (by rw [h3]; exact hO) fun a' Hr' w' hR' hO' hS => hKn _ _ (hl a' Hr' w' hR' hO' Q fun a2 Hr2 w2 hR2 hO2 hS2 => hq a2 Hr2 w2 hR2 hO2 ?_)
      rw [hd.lo, h2] at hS2
      rw [h2] at hS
      exact hS.trans hS2
    · refine ⟨st', hK, hlo.trans h2, fun a Hr w hR hO Q hq => ?_⟩
      rw [List.cons_append]
      apply wpList_step
      intro Kn hKn
      rw [if_neg (by rw [hw a Hr hR]; simp)]
      obtain ⟨vs, rfl, ht, hB, hn⟩ := h1 a Hr hR
      rename_i D'
      obtain ⟨vs', e, hv⟩ := putA_rel (D := D') (v := undefA) (V := undef) ht o.dst .raw
      refine hKn _ _ (hl _ Hr w ⟨vs', e, hv, hB, hn⟩ (by show OwnK E.rows st1.m.H Hr w; rw [h3]; exact hO) Q fun a2 Hr2 w2 hR2 hO2 hS2 => hq a2 Hr2 w2 hR2 hO2 ?_)
      have : (st1.put o.dst undefA).m.wr = st.m.wr := h2
      rw [this] at hS2
      exact hS2
/-- The first operations of a list. -/
theorem ev_ops (nf k : Nat) {ops l : List Oper} {live live' : List (Nat × AV)} {n : Nat} {m : AM} {H' : Mem} {ds' : List Bool} (h : ∀ r, Is (listP E (callWith E (evT E nf)) ops (l.take k) ⟨pat live r 0 n, m⟩ (chK live' n H' ds' .normal)))
    {a : Act} {Hr : List RBlk} {w : World} {Q : Exit → Act → World → Prop} (hP : PatSt E.rows (Ds.map markD) live n m a Hr) (hB : Bun E.rows Ds n0 w0 m.H Hr w)
    (hk : ∀ a' Hr' w', PatSt E.rows (Ds.map markD) live' n ⟨H', ds', m.wr⟩ a' Hr' → Bun E.rows Ds n0 w0 H' Hr' w' → Stp m.wr Hr w Hr' w' → wpList E.P ops.toArray Q (l.drop k) a' w') : wpList E.P ops.toArray Q l a w := by
  obtain ⟨r, hR⟩ := hP
  obtain ⟨st', h1, hlo, h2⟩ := list_sound2 hE (call_ok hE (ev_sound hE nf)) ops (l.drop k) (l.take k) _ _ (h r).is
  rw [← List.take_append_drop k l]
  refine h2 a Hr w hR hB.own Q fun a' Hr' w' hR' hO' hS => ?_
  unfold chK at h1
  simp only [Prod.mk.injEq] at h1
  obtain ⟨_, hn, hl, rfl, rfl⟩ := h1
  have hP' := patSt_of (live := live') hR' hn (lives_of hl)
  have hm : st'.m = ⟨st'.m.H, st'.m.ds, m.wr⟩ := by rw [← hlo]
  rw [hm] at hP'
  have := hk a' Hr' w' hP' (hB.stp hO' hS) hS
  simpa using this
end
theorem wpList_nil {P : Program} {ops : Array Oper} {Q : Exit → Act → World → Prop} {a : Act} {w : World} (h : Q .normal a w) : wpList P ops Q [] a w := h
theorem look_lt {live : List (Nat × AV)} {n i : Nat} {v : AV} (hk : live.all (fun p => Nat.blt p.1 n) = true) (h : look i live = some v) : i < n := by
  induction live with
  | nil => cases h
  | cons p r ih =>
    rw [List.all_cons, Bool.and_eq_true] at hk
    unfold look at h
    cases hb : Nat.beq i p.1 <;> simp only [hb, cond_true, cond_false] at h
    · exact ih hk.2 h
    · rw [Nat.eq_of_beq_eq_true hb]; have := hk.1; rwa [Nat.blt_eq] at this
/-! ### A row of words that a call answers. -/
end

section
section
variable {D : List Deferred} {R : Rws}
def idxOf (l : Nat) : List Nat → Option Nat
  | [] => none
  | x :: r => bif Nat.beq l x then some 0 else (idxOf l r).map (· + 1)
theorem idxOf_get {l i : Nat} {sel : List Nat} (h : idxOf l sel = some i) : sel[i]? = some l := by
  induction sel generalizing i with
  | nil => cases h
  | cons x r ih =>
    unfold idxOf at h
    cases hb : Nat.beq l x <;> simp only [hb, cond_true, cond_false] at h
    · rw [Option.map_eq_some_iff] at h
      obtain ⟨j, h1, rfl⟩ := h
      simpa using ih h1
    · cases h; rw [Nat.eq_of_beq_eq_true hb]; rfl
mutual
def renA (sel : List Nat) : AV → Option AV
  | .ptr l o => (idxOf l sel).map fun l' => .ptr l' o
  | .slice l o n c => (idxOf l sel).map fun l' => .slice l' o n c
  | .func fn cs => (renL sel cs).map fun cs' => .func fn cs'
  | .agg cs => (renL sel cs).map fun cs' => .agg cs'
  | .tuple cs => (renL sel cs).map fun cs' => .tuple cs'
  | .bool l b => some (.bool l b)
  | .int k l n => some (.int k l n)
  | .bv k a => some (.bv k a)
  | .raw v => some (.raw v)
  | .rsl j n c => some (.rsl j n c)
  | .rptr j i o => some (.rptr j i o)
  | .xsl j o n => some (.xsl j o n)
  | .gsl k l o n => (idxOf l sel).map fun l' => .gsl k l' o n
  | .gptr l i o => (idxOf l sel).map fun l' => .gptr l' i o
  | .mp l => (idxOf l sel).map fun l' => .mp l'
  | .meth fn fs cs => match renL sel fs, renL sel cs with
    | some a, some b => some (.meth fn a b)
    | _, _ => none
  | .junk => some .junk
  | .str s => some (.str s)
def renL (sel : List Nat) : List AV → Option (List AV)
  | [] => some []
  | c :: r => match renA sel c, renL sel r with
    | some c', some r' => some (c' :: r')
    | _, _ => none
end
def renI (sel : List Nat) : AIt → Option AIt
  | .cells cs t => (renL sel cs).map fun cs' => .cells cs' t
  | .row n s F t none => some (.row n s F t none)
  | .row n s F t (some o) => (idxOf o sel).map fun o' => .row n s F t (some o')
  | .map m => some (.map m)
  | .gone => some .gone
mutual
theorem Rel.ren {ρ ρ' : Nums} {sel : List Nat} (hρ : ∀ i l : Nat, sel[i]? = some l → ρ'[i]? = ρ[l]?) : ∀ {v v' : AV} {V : Value}, renA sel v = some v' → Rel R ρ v V → Rel R ρ' v' V
  | _, _, _, h, .bool => by simp only [renA, Option.some.injEq] at h; subst h; exact .bool
  | _, _, _, h, .int => by simp only [renA, Option.some.injEq] at h; subst h; exact .int
  | _, _, _, h, .bv hs => by simp only [renA, Option.some.injEq] at h; subst h; exact .bv hs
  | _, _, _, h, .raw => by simp only [renA, Option.some.injEq] at h; subst h; exact .raw
  | _, _, _, h, .rsl h1 h2 => by simp only [renA, Option.some.injEq] at h; subst h; exact .rsl h1 h2
  | _, _, _, h, .rptr h1 h2 h3 => by simp only [renA, Option.some.injEq] at h; subst h; exact .rptr h1 h2 h3
  | _, _, _, h, .xsl h1 h2 h3 h4 => by simp only [renA, Option.some.injEq] at h; subst h; exact .xsl h1 h2 h3 h4
  | _, _, _, h, .junk => by simp only [renA, Option.some.injEq] at h; subst h; exact .junk
  | _, _, _, h, .str => by simp only [renA, Option.some.injEq] at h; subst h; exact .str
  | _, _, _, h, .gsl hb h1 h2 h3 h4 => by
    simp only [renA, Option.map_eq_some_iff] at h
    obtain ⟨l', e1, rfl⟩ := h
    exact .gsl ((hρ _ _ (idxOf_get e1)).trans hb) h1 h2 h3 h4
  | _, _, _, h, .gptr hb => by
    simp only [renA, Option.map_eq_some_iff] at h
    obtain ⟨l', e1, rfl⟩ := h
    exact .gptr ((hρ _ _ (idxOf_get e1)).trans hb)
  | _, _, _, h, .mp hb => by
    simp only [renA, Option.map_eq_some_iff] at h
    obtain ⟨l', e1, rfl⟩ := h
    exact .mp ((hρ _ _ (idxOf_get e1)).trans hb)
  | _, _, _, h, .meth hs ks => by
    simp only [renA] at h
    split at h
    · rename_i e1 e2
      cases h
      exact .meth (RelL.ren hρ e1 hs) (RelL.ren hρ e2 ks)
    · cases h
  | _, _, _, h, .ptr hb => by
    simp only [renA, Option.map_eq_some_iff] at h
    obtain ⟨l', h1, rfl⟩ := h
    exact .ptr ((hρ _ _ (idxOf_get h1)).trans hb)
  | _, _, _, h, .slice hb => by
    simp only [renA, Option.map_eq_some_iff] at h
    obtain ⟨l', h1, rfl⟩ := h
    exact .slice ((hρ _ _ (idxOf_get h1)).trans hb)
  | _, _, _, h, .func hs => by
    simp only [renA, Option.map_eq_some_iff] at h
    obtain ⟨l', h1, rfl⟩ := h
    exact .func (RelL.ren hρ h1 hs)
  | _, _, _, h, .agg hs => by
    simp only [renA, Option.map_eq_some_iff] at h
    obtain ⟨l', h1, rfl⟩ := h
    exact .agg (RelL.ren hρ h1 hs)
  | _, _, _, h, .tuple hs => by
    simp only [renA, Option.map_eq_some_iff] at h
    obtain ⟨l', h1, rfl⟩ := h
    exact .tuple (RelL.ren hρ h1 hs)
theorem RelL.ren {ρ ρ' : Nums} {sel : List Nat} (hρ : ∀ i l : Nat, sel[i]? = some l → ρ'[i]? = ρ[l]?) : ∀ {v v' : List AV} {V : List Value}, renL sel v = some v' → RelL R ρ v V → RelL R ρ' v' V
  | _, _, _, h, .nil => by simp only [renL, Option.some.injEq] at h; subst h; exact .nil
  | _, _, _, h, .cons h1 h2 => by
    unfold renL at h
    split at h
    · rename_i e1 e2; cases h; exact .cons (Rel.ren hρ e1 h1) (RelL.ren hρ e2 h2)
    · cases h
end
def nodupN : List Nat → Bool
  | [] => true
  | x :: r => !memN x r && nodupN r
theorem memN_iff {x : Nat} {l : List Nat} : memN x l = true ↔ x ∈ l := by
  induction l with
  | nil => simp [memN]
  | cons y r ih =>
    unfold memN
    rw [Bool.or_eq_true, List.mem_cons, ih]
    constructor
    · rintro (h | h)
      · exact .inl (Nat.eq_of_beq_eq_true h)
      · exact .inr h
    · rintro (h | h)
      · exact .inl (by rw [h]; simp)
      · exact .inr h
theorem nodupN_spec : ∀ {l : List Nat}, nodupN l = true → l.Nodup
  | [], _ => List.nodup_nil
  | x :: r, h => by
    unfold nodupN at h
    rw [Bool.and_eq_true] at h
    refine List.nodup_cons.2 ⟨fun hm => ?_, nodupN_spec h.2⟩
    rw [memN_iff.2 hm] at h
    simp at h
/-- The blocks of these labels. -/
def pick (sel : List Nat) (Hr : List RBlk) : List RBlk := sel.filterMap fun l => Hr[l]?
theorem pick_get {Hr : List RBlk} : ∀ {sel : List Nat}, (∀ l ∈ sel, l < Hr.length) → ∀ i l : Nat, sel[i]? = some l → (pick sel Hr)[i]? = Hr[l]?
  | [], _, i, l, h => by cases h
  | x :: r, hv, i, l, h => by
    have hx : x < Hr.length := hv x (by simp)
    have e : pick (x :: r) Hr = Hr[x] :: pick r Hr := by unfold pick; rw [List.filterMap_cons]; simp [List.getElem?_eq_getElem hx]
    rw [e]
    cases i with
    | zero => simp at h; subst h; simp [List.getElem?_eq_getElem hx]
    | succ i => simpa using pick_get (fun l hl => hv l (by simp [hl])) i l (by simpa using h)
theorem pick_mem {Hr : List RBlk} {sel : List Nat} {p : RBlk} (h : p ∈ pick sel Hr) : p ∈ Hr := by
  unfold pick at h
  rw [List.mem_filterMap] at h
  obtain ⟨l, _, h⟩ := h
  exact List.mem_of_getElem? h
theorem pick_len {Hr : List RBlk} : ∀ {sel : List Nat}, (∀ l ∈ sel, l < Hr.length) → (pick sel Hr).length = sel.length
  | [], _ => rfl
  | x :: r, hv => by
    have hx : x < Hr.length := hv x (by simp)
    have e : pick (x :: r) Hr = Hr[x] :: pick r Hr := by unfold pick; rw [List.filterMap_cons]; simp [List.getElem?_eq_getElem hx]
    rw [e, List.length_cons, List.length_cons, pick_len (fun l hl => hv l (by simp [hl]))]
theorem nums_pick {Hr : List RBlk} {sel : List Nat} (hv : ∀ l ∈ sel, l < Hr.length) (i l : Nat) (h : sel[i]? = some l) : (nums (pick sel Hr))[i]? = (nums Hr)[l]? := by
  simp only [nums, List.getElem?_map, pick_get hv i l h]
theorem nums_pick_mem {Hr : List RBlk} {sel : List Nat} {b : Num} (h : b ∈ nums (pick sel Hr)) : b ∈ nums Hr := by
  simp only [nums, List.mem_map] at h ⊢
  obtain ⟨p, hp, e⟩ := h
  exact ⟨p, pick_mem hp, e⟩
theorem renI_live {sel : List Nat} {it jt : AIt} (h : renI sel it = some jt) : jt.live = it.live := by
  unfold renI at h
  split at h
  · rw [Option.map_eq_some_iff] at h; obtain ⟨_, _, rfl⟩ := h; rfl
  · cases h; rfl
  · rw [Option.map_eq_some_iff] at h; obtain ⟨_, _, rfl⟩ := h; rfl
  · cases h; rfl
  · cases h; rfl
/-- The owner, by its new label. -/
theorem renI_owner {sel : List Nat} {it jt : AIt} {i l : Nat} (h : renI sel it = some jt) (hl : sel[i]? = some l) : sel[jt.owner i]? = some (it.owner l) := by
  unfold renI at h
  split at h
  · rw [Option.map_eq_some_iff] at h; obtain ⟨_, _, rfl⟩ := h; exact hl
  · cases h; exact hl
  · rw [Option.map_eq_some_iff] at h; obtain ⟨o', ho, rfl⟩ := h; exact idxOf_get ho
  · cases h; exact hl
  · cases h; exact hl
theorem RelI.ren {ρ ρ' : Nums} {sel : List Nat} (hρ : ∀ i l : Nat, sel[i]? = some l → ρ'[i]? = ρ[l]?) {it jt : AIt} {p : RBlk} (h : renI sel it = some jt) (hr : RelI R ρ it p) : RelI R ρ' jt p := by
  cases hr with
  | cells hc hq =>
    simp only [renI, Option.map_eq_some_iff] at h
    obtain ⟨cs', h1, rfl⟩ := h
    exact .cells (RelL.ren hρ h1 hc) hq
  | @row0 s F t own b o hq =>
    cases own with
    | none => simp only [renI, Option.some.injEq] at h; subst h; exact .row0 hq
    | some o =>
      simp only [renI, Option.map_eq_some_iff] at h
      obtain ⟨o', _, rfl⟩ := h
      exact .row0 hq
  | @row n s F t own b cur c a b c d e =>
    cases own with
    | none => simp only [renI, Option.some.injEq] at h; subst h; exact .row a b c d e
    | some o =>
      simp only [renI, Option.map_eq_some_iff] at h
      obtain ⟨o', _, rfl⟩ := h
      exact .row a b c d e
  | map a b => simp only [renI, Option.some.injEq] at h; subst h; exact .map a b
  | gone => simp only [renI, Option.some.injEq] at h; subst h; exact .gone
end
def selK (sel : List Nat) (e0 : AExit) (live : List (Nat × AV)) (n : Nat) (H : Mem) : AExit → ASt → Prop := fun e st =>
  (eqE e e0, st.tl.length, live.map (fun p => (st.tl[p.1]?).bind (renA sel)), sel.map (fun l => (st.m.H[l]?).bind (renI sel)), st.m.ds) = (true, n, live.map (fun p => some p.2), H.map some, ([] : List Bool))
abbrev selR (live : List (Nat × AV)) (n : Nat) (H : Mem) : Bool × Nat × List (Option AV) × List (Option AIt) × List Bool := (true, n, live.map (fun p => some p.2), H.map some, [])
def allW : Nat → Bool := fun _ => true
theorem lives_ren {ρ ρ' : Nums} {sel : List Nat} {R : Rws} (hρ : ∀ i l : Nat, sel[i]? = some l → ρ'[i]? = ρ[l]?) {tl : List AV} {vs : List Value} (ht : RelL R ρ tl vs) {live : List (Nat × AV)} (hl : live.map (fun p => (tl[p.1]?).bind (renA sel)) = live.map (fun p => some p.2)) :
    ∃ tl', RelL R ρ' tl' vs ∧ tl'.length = tl.length ∧ Lives tl' live := by
  have key : ∀ (tl : List AV) (vs : List Value), RelL R ρ tl vs → ∀ i0, (∀ i v, look (i0 + i) live = some v → (tl[i]?).bind (renA sel) = some v) → ∃ tl', RelL R ρ' tl' vs ∧ tl'.length = tl.length ∧ ∀ i v, look (i0 + i) live = some v → tl'[i]? = some v := by
    intro tl vs h
    induction tl generalizing vs with
    | nil =>
      intro i0 hl
      cases h
      exact ⟨[], .nil, rfl, fun i v hv => by have := hl i v hv; simp at this⟩
    | cons c cs ih =>
      intro i0 hl
      cases h with | cons h1 h2 =>
      rename_i V Vs
      obtain ⟨tl', q1, q2, q3⟩ := ih Vs h2 (i0 + 1) (fun i v hv => by have := hl (i + 1) v (by rw [← hv]; congr 1; omega); simpa using this)
      rcases hq : look i0 live with _ | v
      · refine ⟨.raw V :: tl', .cons .raw q1, by simp [q2], fun i v hv => ?_⟩
        cases i with
        | zero => rw [Nat.add_zero, hq] at hv; cases hv
        | succ i => simpa using q3 i v (by rw [← hv]; congr 1; omega)
      · have hc := hl 0 v (by simpa using hq)
        simp at hc
        refine ⟨v :: tl', .cons (Rel.ren hρ hc h1) q1, by simp [q2], fun i u hu => ?_⟩
        cases i with
        | zero => rw [Nat.add_zero, hq] at hu; cases hu; rfl
        | succ i => simpa using q3 i u (by rw [← hu]; congr 1; omega)
  have hl' : ∀ i v, look (0 + i) live = some v → (tl[i]?).bind (renA sel) = some v := by
    intro i v hv
    rw [Nat.zero_add] at hv
    have aux : ∀ (l : List (Nat × AV)), l.map (fun p => (tl[p.1]?).bind (renA sel)) = l.map (fun p => some p.2) → look i l = some v → (tl[i]?).bind (renA sel) = some v := by
      intro l
      induction l with
      | nil => intro _ h; cases h
      | cons p r ih =>
        intro he h
        simp only [List.map_cons, List.cons.injEq] at he
        obtain ⟨j, u⟩ := p
        unfold look at h
        cases hb : Nat.beq i j <;> simp only [hb, cond_true, cond_false] at h
        · exact ih he.2 h
        · rw [Nat.eq_of_beq_eq_true hb]; cases h; exact he.1
    exact aux live hl hv
  obtain ⟨tl', q1, q2, q3⟩ := key tl vs ht 0 hl'
  exact ⟨tl', q1, q2, fun i v hv => q3 i v (by simpa using hv)⟩
section
variable {E : Env} (hE : EnvOK E) {Ds : List Nat} {n0 : Nat} {w0 : World}
include hE
/-- Code, however it ends; of the blocks only these are kept. -/
theorem ev_codeS (nf : Nat) (sel : List Nat) (e0 : AExit) {c : Code} {live live' : List (Nat × AV)} {n : Nat} {H H' : Mem} {ds ds' : List Bool} (hnd : nodupN sel = true) (h : ∀ r, Is (evT E nf (.code c) ⟨pat live r 0 n, ⟨H, ds, allW⟩⟩ (selK sel e0 live' n H')))
    {a : Act} {Hr : List RBlk} {w : World} {Q : Exit → Act → World → Prop} (hP : PatSt E.rows (Ds.map markD) live n ⟨H, ds', allW⟩ a Hr) (hB : Bun E.rows Ds n0 w0 H Hr w)
    (hk : ∀ a' Hr' w', PatSt E.rows (Ds.map markD) live' n ⟨H', [], allW⟩ a' Hr' → Bun E.rows Ds n0 w0 H' Hr' w' → Q e0.real a' w') : c.wp E.P Q a w := by
  obtain ⟨r, hR⟩ := hP
  obtain ⟨e, st', h1, hlo, hs⟩ := ev_sound hE nf (.code c) _ _ (h r).is
  refine wp_mono (hs a Hr w hR hB.own) ?_
  rintro e' a' w' ⟨rfl, Hr', hR', hO', hS⟩
  unfold selK at h1
  simp only [Prod.mk.injEq] at h1
  obtain ⟨he, hn, hl, hH, hd⟩ := h1
  rw [eqE_eq he]
  have hB' := hB.stp hO' hS
  obtain ⟨vs, rfl, ht, hBl, hnod⟩ := hR'
  have hbl := hBl.len
  have hlen : H'.length = sel.length := by have := congrArg List.length hH; simpa using this.symm
  have hat : ∀ i l : Nat, sel[i]? = some l → ∃ p q : AIt, st'.m.H[l]? = some p ∧ renI sel p = some q ∧ H'[i]? = some q := by
    intro i l hi
    have h2 := congrArg (fun z : List (Option AIt) => z[i]?) hH
    simp only [List.getElem?_map, hi, Option.map_some] at h2
    have hi' : i < H'.length := by rw [hlen]; exact (List.getElem?_eq_some_iff.1 hi).1
    rw [List.getElem?_eq_getElem hi', Option.map_some, Option.some.injEq] at h2
    rw [Option.bind_eq_some_iff] at h2
    obtain ⟨p, h3, h4⟩ := h2
    exact ⟨p, _, h3, h4, List.getElem?_eq_getElem hi'⟩
  have hv : ∀ l ∈ sel, l < Hr'.length := fun l hl => by
    obtain ⟨i, hi, hi'⟩ := List.mem_iff_getElem.1 hl
    obtain ⟨p, q, h3, _, _⟩ := hat i l (by rw [List.getElem?_eq_getElem hi, hi'])
    rw [hbl]; exact (List.getElem?_eq_some_iff.1 h3).1
  have hρ := nums_pick (Hr := Hr') hv
  obtain ⟨tl', t1, t2, t3⟩ := lives_ren hρ ht hl
  have hpk := pick_get (Hr := Hr') hv
  have hto : ∀ (i : Nat) jt q, H'[i]? = some jt → (pick sel Hr')[i]? = some q → ∃ l it, sel[i]? = some l ∧ st'.m.H[l]? = some it ∧ renI sel it = some jt ∧ Hr'[l]? = some q := fun i jt q h1 h2 => by
    have hi2 : i < sel.length := by rw [← hlen]; exact (List.getElem?_eq_some_iff.1 h1).1
    obtain ⟨p, q', h3, h4, h5⟩ := hat i sel[i] (List.getElem?_eq_getElem hi2)
    rw [h1] at h5; cases h5
    exact ⟨sel[i], p, List.getElem?_eq_getElem hi2, h3, h4, (hpk i _ (List.getElem?_eq_getElem hi2)).symm.trans h2⟩
  have hBl' : RelB E.rows (nums (pick sel Hr')) H' (pick sel Hr') := by
    refine ⟨by rw [pick_len hv, hlen], fun i jt q h1 h2 => ?_⟩
    obtain ⟨l, it, e1, e2, e3, e4⟩ := hto i jt q h1 h2
    exact RelI.ren hρ e3 (hBl.2 l it q e2 e4)
  have hnod' : Apart H' (pick sel Hr') := by
    have hsn := nodupN_spec hnd
    intro i j it1 jt1 p1 p2 hne h1 h2 l1 l2 q1 q2 z1 z2 hb
    obtain ⟨l, it, e1, e2, e3, e4⟩ := hto i it1 p1 h1 q1
    obtain ⟨m, jt, f1, f2, f3, f4⟩ := hto j jt1 p2 h2 q2
    have hlm : l ≠ m := fun e => by
      subst e
      have hi := (List.getElem?_eq_some_iff.1 e1).1
      exact hne ((List.getElem?_inj hi hsn).1 (e1.trans f1.symm))
    have ho := hnod l m it jt p1 p2 hlm e2 f2 (by rw [← renI_live e3]; exact l1) (by rw [← renI_live f3]; exact l2) e4 f4 z1 z2 hb
    have g1 := renI_owner e3 e1
    have g2 := renI_owner f3 f1
    rw [ho] at g1
    exact (List.getElem?_inj (List.getElem?_eq_some_iff.1 g1).1 hsn).1 (g1.trans g2.symm)
  have hP' : PatSt E.rows (Ds.map markD) live' n ⟨H', [], allW⟩ ⟨vs.toArray, Ds.map markD⟩ (pick sel Hr') :=
    patSt_of (live := live) (st := ⟨tl', ⟨H', [], allW⟩⟩) ⟨vs, rfl, t1, hBl', hnod'⟩ (by rw [t2]; exact hn) t3
  have hsub : ∀ b, b ∈ bs (nums (pick sel Hr')) → b ∈ bs (nums Hr') := fun b hb => by
    rw [mem_bs] at hb ⊢
    obtain ⟨q, hq, e⟩ := hb
    exact ⟨q, nums_pick_mem hq, e⟩
  refine hk _ _ w' hP' ⟨⟨fun i jt q h1 h2 hq => ?_, hB'.own.2.sub hsub⟩, fun D hD => ?_, hB'.nodup, fun b hb hbp => hB'.fresh b (nums_pick_mem hb) hbp, hB'.below, hB'.size⟩
  · obtain ⟨l, it, e1, e2, e3, e4⟩ := hto i jt q h1 h2
    obtain ⟨g1, g2⟩ := hB'.own.1 l it q e2 e4 hq
    exact ⟨g1, fun hlv => g2 (by rw [← renI_live e3]; exact hlv)⟩
  · obtain ⟨q1, q2, q3⟩ := hB'.marks D hD
    exact ⟨q1, fun hm => q2 (hsub _ hm), q3⟩
omit hE in
/-- A loop of N rounds, and how it is left. -/
theorem ev_loopG {c : Code} (hc : isLp c = true) (N : Nat) (e0 : AExit) (he0 : eqE e0 .normal = false) {n : Nat} (live : Nat → List (Nat × AV)) (H : Nat → Mem) {live' : List (Nat × AV)} {H' : Mem} {Q : Exit → Act → World → Prop}
    (hstep : ∀ k, k < N → ∀ a Hr w (Q' : Exit → Act → World → Prop), PatSt E.rows (Ds.map markD) (live k) n ⟨H k, [], allW⟩ a Hr → Bun E.rows Ds n0 w0 (H k) Hr w → (∀ a' Hr' w', PatSt E.rows (Ds.map markD) (live (k + 1)) n ⟨H (k + 1), [], allW⟩ a' Hr' → Bun E.rows Ds n0 w0 (H (k + 1)) Hr' w' → Q' .normal a' w') → (lpB c).wp E.P Q' a w)
    (hlast : ∀ a Hr w (Q' : Exit → Act → World → Prop), PatSt E.rows (Ds.map markD) (live N) n ⟨H N, [], allW⟩ a Hr → Bun E.rows Ds n0 w0 (H N) Hr w → (∀ a' Hr' w', PatSt E.rows (Ds.map markD) live' n ⟨H', [], allW⟩ a' Hr' → Bun E.rows Ds n0 w0 H' Hr' w' → Q' e0.real a' w') → (lpB c).wp E.P Q' a w)
    {a : Act} {Hr : List RBlk} {w : World} (hP : PatSt E.rows (Ds.map markD) (live 0) n ⟨H 0, [], allW⟩ a Hr) (hB : Bun E.rows Ds n0 w0 (H 0) Hr w)
    (hk : ∀ a' Hr' w', PatSt E.rows (Ds.map markD) live' n ⟨H', [], allW⟩ a' Hr' → Bun E.rows Ds n0 w0 H' Hr' w' → Q e0.real a' w') : c.wp E.P Q a w := by
  refine wp_lp (N + 1) hc ?_
  have key : ∀ j k, k + j = N → ∀ a Hr w, PatSt E.rows (Ds.map markD) (live k) n ⟨H k, [], allW⟩ a Hr → Bun E.rows Ds n0 w0 (H k) Hr w → Code.rounds E.P (lpB c) Q (j + 1) a w := by
    intro j
    induction j with
    | zero =>
      intro k hkN a Hr w hP hB
      obtain rfl : k = N := by omega
      rw [rounds_succ]
      refine hlast a Hr w _ hP hB fun a' Hr' w' hP' hB' => ?_
      have := hk a' Hr' w' hP' hB'
      cases e0 <;> first | exact this | (cases he0)
    | succ j ih =>
      intro k hkN a Hr w hP hB
      rw [rounds_succ]
      exact hstep k (by omega) a Hr w _ hP hB fun a' Hr' w' hP' hB' => ih (k + 1) (by omega) a' Hr' w' hP' hB'
  exact key N 0 (by omega) a Hr w hP hB
end
end

section
open Go.ChangeMaps (setBlock)
variable {D : List Deferred} {R : Rws}
theorem pat_get {live : List (Nat × AV)} {r : Nat → Value} {n i : Nat} {u : AV} (hu : look i live = some u) (hin : i < n) : (pat live r 0 n)[i]? = some u := by
  have key : ∀ (k i0 : Nat), i0 ≤ i → i < i0 + k → (pat live r i0 k)[i - i0]? = some u := by
    intro k
    induction k with
    | zero => intro i0 h1 h2; omega
    | succ k ih =>
      intro i0 h1 h2
      unfold pat
      by_cases hi : i = i0
      · subst hi; simp [hu]
      · rw [show i - i0 = (i - (i0 + 1)) + 1 by omega]
        simpa using ih (i0 + 1) (by omega) (by omega)
  simpa using key n 0 (Nat.zero_le _) (by omega)
theorem patSt_live {live live' : List (Nat × AV)} {n : Nat} {m : AM} {a : Act} {Hr : List RBlk} (hP : PatSt R D live n m a Hr) (hlv : ∀ i v, look i live' = some v → look i live = some v) (hkeys : live'.all (fun p => Nat.blt p.1 n) = true) : PatSt R D live' n m a Hr := by
  obtain ⟨r, hR⟩ := hP
  exact patSt_of (live := live) hR (pat_len _ _ _ _) fun i v hv => pat_get (hlv i v hv) (look_lt hkeys hv)
theorem looks_of {live : List (Nat × AV)} : ∀ {live' : List (Nat × AV)}, live'.map (fun p => look p.1 live) = live'.map (fun p => some p.2) → ∀ i v, look i live' = some v → look i live = some v
  | [], _, i, v, h => by cases h
  | (j, u) :: r, he, i, v, h => by
    simp only [List.map_cons, List.cons.injEq] at he
    unfold look at h
    cases hb : Nat.beq i j <;> simp only [hb, cond_true, cond_false] at h
    · exact looks_of he.2 i v h
    · rw [Nat.eq_of_beq_eq_true hb]; cases h; exact he.1
/-! ### What has been gone over. -/
/-! ### Functions that begin with memory of ours. -/
theorem ev_enterH {E : Env} {f : FuncId} {fn : Func} {c : Code} (hf : E.P.funcs[f]? = some fn) (hb : fn.body = some c) {args : List AV} {Args : List Value} {H : Mem} {Hr : List RBlk} (hn : args.length ≤ fn.ntmps) {w : World} (ha : RelL E.rows (nums Hr) args Args) (hB : RelB E.rows (nums Hr) H Hr) (hA : Apart H Hr) (hO : OwnK E.rows H Hr w) {ds : List Bool} {wr : Nat → Bool} {Q : Ending → World → Prop}
    (h : ∀ a, PatSt E.rows ([].map markD) (inLive 0 args) fn.ntmps ⟨H, ds, wr⟩ a Hr → Bun E.rows [] 0 w H Hr w → c.wp E.P (bodyPostM Fence.wide 0 E.P fn Q) a w) : Calls E.P f Args.toArray w Q := by
  refine calls_marks hf hb (h _ ?_ ⟨hO, by simp, by simp, fun q _ _ => Nat.zero_le _, ⟨rfl, rfl, rfl, Nat.le_refl _, fun k hk => absurd hk (Nat.not_lt_zero _)⟩, Nat.zero_le _⟩)
  have hl := ha.len
  have hR : RelSt E.rows [] ⟨args ++ List.replicate (fn.ntmps - args.length) undefA, ⟨H, ds, wr⟩⟩ ⟨Args.toArray ++ Array.replicate (fn.ntmps - Args.toArray.size) undef, []⟩ Hr := by
    refine ⟨Args ++ List.replicate (fn.ntmps - args.length) undef, ?_, ha.append (RelL.rep .raw _), hB, hA⟩
    congr 1
    apply Array.toList_inj.1
    simp [hl]
  exact patSt_of (live := []) hR (by simp; omega) (fun i v hv => by
    obtain ⟨_, h2⟩ := look_in hv
    simp only [Nat.sub_zero] at h2
    rw [List.getElem?_append_left (List.getElem?_eq_some_iff.1 h2).1]; exact h2)
/-- The end of such a function. -/
theorem ev_endH {E : Env} (hE : EnvOK E) {live : List (Nat × AV)} {n n0 : Nat} {H : Mem} {ds : List Bool} {wr : Nat → Bool} {r : AV} {fn : Func} (h : ∀ rs, resA E.P E.rows H (pat live rs 0 n) fn.results.toList = some [r]) {a : Act} {Hr : List RBlk} {w w0 : World} (hP : PatSt E.rows ([].map markD) live n ⟨H, ds, wr⟩ a Hr) (hB : Bun E.rows [] n0 w0 H Hr w) {Q : Ending → World → Prop}
    (hk : ∀ V, Rel E.rows (nums Hr) r V → Q (.returned V) w) {e : Exit} (he : e = .ret ∨ e = .normal) : bodyPostM Fence.wide 0 E.P fn Q e a w := by
  obtain ⟨rs, hR⟩ := hP
  obtain ⟨V, hv, hres⟩ := results_sound hE.rows hR (h rs)
  have hd : a.defers = [] := by obtain ⟨tv, rfl, _⟩ := hR; rfl
  have := leave_marks (P := E.P) (fn := fn) (tmps := a.tmps) (Q := Q) [] w (by simp) (by simp) ⟨V, hres _ hB.own, hk V hv⟩
  rw [List.map_nil, ← hd] at this
  rcases he with rfl | rfl <;> exact this
end

section
theorem nil_row {R : Rws} {D : List Deferred} {Ds : List Nat} {n0 : Nat} {w0 w : World} {live : List (Nat × AV)} {n l s : Nat} {H : Mem} {F : Nat → List AV} {t e : TypeId} {ds : List Bool} {wr : Nat → Bool} {a : Act} {Hr : List RBlk} (hs : 0 < s) (hl : H[l]? = some (.cells [.raw (.slice none 0 0)] t))
    (hP : PatSt R D live n ⟨H, ds, wr⟩ a Hr) (hB : Bun R Ds n0 w0 H Hr w) :
    PatSt R D live n ⟨H.set l (.cells [.gsl .top H.length 0 0] t) ++ [.row 0 s F e none], ds, wr⟩ a (Hr ++ [noBlk s]) ∧ Bun R Ds n0 w0 (H.set l (.cells [.gsl .top H.length 0 0] t) ++ [.row 0 s F e none]) (Hr ++ [noBlk s]) w := by
  obtain ⟨r, vs, e', ht, hBl, hA⟩ := hP
  have hno : (noBlk s).num.ph = false → ∀ {p : Prop}, p := fun h => by rw [noBlk_ph hs] at h; cases h
  have hn : nums (Hr ++ [noBlk s]) = nums Hr ++ [(noBlk s).num] := nums_snoc _ _
  have hq : (nums Hr ++ [(noBlk s).num])[H.length]? = some (noBlk s).num := by
    rw [List.getElem?_append_right (by simp [nums, hBl.1])]; simp [nums, hBl.1]
  have hbs : bs (nums (Hr ++ [noBlk s])) = bs (nums Hr) := by rw [hn]; simp [bs, noBlk_ph hs]
  have hO := own_same (it' := .cells [.gsl .top H.length 0 0] t) hB.own.1 hl rfl
  have hA' := apart_same (it' := .cells [.gsl .top H.length 0 0] t) hA hl rfl rfl
  have hlen : Hr.length = (H.set l (.cells [.gsl .top H.length 0 0] t)).length := by simp [hBl.1]
  refine ⟨⟨r, vs, e', ?_, ?_, apart_new hA' hO hlen (p := noBlk s) (fun h => hno h)⟩, ⟨⟨own_new hO hlen (Below.refl _ _) (fun h => hno h), ?_⟩, ?_, hB.nodup, ?_, hB.below, hB.size⟩⟩
  · rw [hn]; exact ht.grow _
  · rw [hn]
    refine (relB_same (hBl.grow _) hl fun p hp => ?_).snoc (.row0 (noBlk_ph hs))
    cases hp with | cells hp hq' =>
    cases hp with | cons h1 h2 =>
    cases h2; cases h1
    exact .cells (.cons (rel_gsl_no hq) .nil) hq'
  · rw [hbs]; exact hB.own.2
  · rw [hbs]; exact hB.marks
  · intro q hq hqp
    rw [hn] at hq
    rcases List.mem_append.1 hq with h | h
    · exact hB.fresh q h hqp
    · rw [List.mem_singleton.1 h, noBlk_ph hs] at hqp; cases hqp
def liveB : Mem → Bool
  | [] => true
  | it :: r => it.live && liveB r
theorem liveB_get : ∀ {H : Mem} {l : Nat} {it : AIt}, liveB H = true → H[l]? = some it → it.live = true
  | [], l, it, _, h => by simp at h
  | jt :: r, 0, it, hb, h => by
    simp at h; subst h
    exact (Bool.and_eq_true _ _ ▸ hb : _ ∧ _).1
  | jt :: r, l + 1, it, hb, h => liveB_get (H := r) (l := l) (Bool.and_eq_true _ _ ▸ hb : _ ∧ _).2 (by simpa using h)
end

section
variable {P : Program}
/-- All of them at once. -/
def eqsK (P : Program) (t : TypeId) : Option (List IntKind) := match aggA P t with
  | some true => kT P 9 t
  | _ => none
theorem eqsK_ok : ∀ t ks, eqsK P t = some ks → EqT P t ks := fun t ks h xs ys hx hy w => by
  unfold eqsK at h
  split at h
  · rename_i ha
    exact eqK_sound 9 t ks h 10000 (by decide) _ _ xs ys hx hy (by unfold IsAt; rw [ha]) (by unfold IsAt; rw [ha]) w
  · cases h
end
end Go.Proofs.Ytcfomhnfhalmaaa
end

section
set_option linter.unusedVariables false
set_option linter.unusedSimpArgs false
set_option maxRecDepth 100000
namespace Go.Proofs.Ytcfomhnfhalmaaa
open Go.RowKit

theorem ev_callsI {E : Env} (hE : EnvOK E) (n : Nat) {f : FuncId} {args : List AV} {r : AV} {V : Value} {ds : List Bool} {wr : Nat → Bool} (h : Is (evCall E n f args ⟨[], ds, wr⟩ (fun v _ => v = r))) (hV : r.told? = some V) {Args : List Value} (ha : RelL E.rows [] args Args) (hr : E.rows = noRows) (w : World) :
    Calls E.P f Args.toArray w fun e w' => e = .returned V ∧ Below w.heap.size w w' := ev_calls hE n h.is hV ha hr w
theorem ev_callsR {E : Env} (hE : EnvOK E) (n : Nat) {f : FuncId} {args : List AV} {r : AV} {V : Value} {ds : List Bool} {wr : Nat → Bool} (h : Is (evCall E n f args ⟨[], ds, wr⟩ (fun v _ => v = r))) (hV : r.told? = some V) {Args : List Value} (ha : RelL E.rows [] args Args) (w : World) (hd : Rd E.rows [] w) :
    Calls E.P f Args.toArray w fun e w' => e = .returned V ∧ Below w.heap.size w w' := ev_calls_rd hE n h.is hV ha w hd
/-- A variable's value, said in another way. -/
theorem patSt_val {R : Rws} {D : List Deferred} {live : List (Nat × AV)} {n d : Nat} {m : AM} {a : Act} {Hr : List RBlk} {v v' : AV} (hP : PatSt R D live n m a Hr) (hkeys : live.all (fun p => Nat.blt p.1 n) = true) (hd : d < n) (hl : look d live = some v) (hv : ∀ V, Rel R (nums Hr) v V → Rel R (nums Hr) v' V) : PatSt R D ((d, v') :: live) n m a Hr := by
  obtain ⟨r, vs, rfl, ht, hB, hA⟩ := hP
  have hg := pat_get (r := r) hl hd
  obtain ⟨V, h1, h2⟩ := ht.get hg
  refine patSt_of (live := live) (st := ⟨(pat live r 0 n).set d v', m⟩) ⟨vs, rfl, ht.setSame h1 (hv V h2), hB, hA⟩ (by simp [pat_len]) (fun i u hu => ?_)
  unfold look at hu
  cases hb' : Nat.beq i d <;> simp only [hb', cond_true, cond_false] at hu
  · have hne : i ≠ d := Nat.ne_of_beq_eq_false hb'
    rw [List.getElem?_set_ne (Ne.symm hne)]
    exact pat_get hu (look_lt hkeys hu)
  · rw [Nat.eq_of_beq_eq_true hb']; cases hu
    rw [List.getElem?_set_self (by rw [pat_len]; exact hd)]
end Go.Proofs.Ytcfomhnfhalmaaa
end
