/- Regions that draw their order, with what the known worlds claim: an allocation that only the tail uses may come at any time. No program of its own. No condition. (Under way.) -/
import Derived.Test.YtcfomhnfhalmaaaRegW
set_option linter.unusedVariables false
set_option linter.unusedSimpArgs false
namespace Go.Proofs.Ytcfomhnfhalmaaa
open Go.RowKit
namespace Fv
abbrev WP := World → Prop
/-- Blocks that are claimed. -/
abbrev BP := Nat → Prop
abbrev Post := Act → WP → BP → Prop
/-- What is claimed next was claimed, or is new; what nobody claims stays. -/
structure Left (B B' : BP) (w w' : World) : Prop where
  claims : ∀ b, B' b → B b ∨ w.heap.size ≤ b
  stays : ∀ k, k < w.heap.size → ¬ B k → w'.heap[k]? = w.heap[k]?
  size : w.heap.size ≤ w'.heap.size
section
variable {P : Program} {ops : Array Oper} {St : WP}
def Alt (P : Program) (St : WP) (o : Oper) (K : Post) (a : Act) (S : WP) (B : BP) : Nat → Prop
  | 1 => ∃ N : Value → WP → BP → Prop, (∀ w, S w → atR P o a w fun u w' => ∃ S' B', N u S' B' ∧ S' w' ∧ Left B B' w w') ∧ ∀ u S' B', N u S' B' → Fw.Stable S' ∧ (∀ w, S' w → S w) ∧ (∀ w, S' w → ∀ b, B' b → b < w.heap.size) ∧ K (a.put o.dst u) S' B'
  | 3 => ∃ N : Value → WP → BP → Prop, (∀ w, S w → atR P o a w fun u w' => ∃ S' B', N u S' B' ∧ S' w' ∧ Left B B' w w') ∧ ∀ u S' B', N u S' B' → Fw.Stable S' ∧ (∀ w, S' w → St w) ∧ (∀ w, S' w → ∀ b, B' b → b < w.heap.size) ∧ K (a.put o.dst u) S' B'
  | _ => ∃ v, (∀ w, S w → at1 P o a w v) ∧ K (a.put o.dst v) S B
/-- It forgets what is claimed. -/
theorem Alt.to {o : Oper} {K : Post} {a : Act} {S : WP} {B : BP} : ∀ {k : Nat}, Alt P St o K a S B k → Fw.Alt P St o (fun a S => ∃ B, K a S B) a S k := by
  intro k hh
  unfold Alt at hh
  unfold Fw.Alt
  split
  · obtain ⟨N, h1, h2⟩ := hh
    exact ⟨fun u S' => ∃ B', N u S' B', fun w hw => atR_mono (h1 w hw) fun u w' ⟨S', B', x1, x2, _⟩ => ⟨S', ⟨B', x1⟩, x2⟩, fun u S' ⟨B', x⟩ => let ⟨a1, a2, _, a3⟩ := h2 u S' B' x; ⟨a1, a2, B', a3⟩⟩
  · obtain ⟨N, h1, h2⟩ := hh
    exact ⟨fun u S' => ∃ B', N u S' B', fun w hw => atR_mono (h1 w hw) fun u w' ⟨S', B', x1, x2, _⟩ => ⟨S', ⟨B', x1⟩, x2⟩, fun u S' ⟨B', x⟩ => let ⟨a1, a2, _, a3⟩ := h2 u S' B' x; ⟨a1, a2, B', a3⟩⟩
  · rename_i hn1 hn3
    split at hh
    · exact absurd rfl hn1
    · exact absurd rfl hn3
    · obtain ⟨v, h1, h2⟩ := hh; exact ⟨v, h1, B, h2⟩
/-- A block beside that nobody claims: what is done leaves it alone. -/
theorem Alt.float {o : Oper} {K K' : Post} {a : Act} {S : WP} {B : BP} {b : Nat} {c : Array Value} {t : TypeId} (hb : ¬ B b) (h : ∀ a S B, ¬ B b → K a S B → K' a (Fw.With S b c t) B) (hSt : ∀ {S' : WP}, (∀ w, S' w → St w) → ∀ w, Fw.With S' b c t w → St w) :
    ∀ {k : Nat}, Alt P St o K a S B k → Alt P St o K' a (Fw.With S b c t) B k := by
  intro k hh
  have step : ∀ {N : Value → WP → BP → Prop}, (∀ w, S w → atR P o a w fun u w' => ∃ S' B', N u S' B' ∧ S' w' ∧ Left B B' w w') → ∀ w, Fw.With S b c t w → atR P o a w fun u w' => ∃ S'' B', (∃ S', N u S' B' ∧ ¬ B' b ∧ S'' = Fw.With S' b c t) ∧ S'' w' ∧ Left B B' w w' := fun {N} h1 w hw => atR_mono (h1 w hw.1) fun u w' ⟨S', B', x1, x2, x3⟩ => by
    have hlt := hw.2.lt
    have hn : ¬ B' b := fun hB => by
      rcases x3.claims b hB with e | e
      · exact hb e
      · omega
    exact ⟨_, B', ⟨S', x1, hn, rfl⟩, ⟨x2, (x3.stays b hlt hb).trans hw.2⟩, x3⟩
  unfold Alt at hh ⊢
  split
  · obtain ⟨N, h1, h2⟩ := hh
    refine ⟨fun u S'' B' => ∃ S', N u S' B' ∧ ¬ B' b ∧ S'' = Fw.With S' b c t, step h1, fun u S'' B' ⟨S', x1, x2, x3⟩ => ?_⟩
    subst x3
    obtain ⟨a1, a2, a4, a3⟩ := h2 u S' B' x1
    exact ⟨Fw.With.stable a1, fun w hw => ⟨a2 w hw.1, hw.2⟩, fun w hw => a4 w hw.1, h _ _ _ x2 a3⟩
  · obtain ⟨N, h1, h2⟩ := hh
    refine ⟨fun u S'' B' => ∃ S', N u S' B' ∧ ¬ B' b ∧ S'' = Fw.With S' b c t, step h1, fun u S'' B' ⟨S', x1, x2, x3⟩ => ?_⟩
    subst x3
    obtain ⟨a1, a2, a4, a3⟩ := h2 u S' B' x1
    exact ⟨Fw.With.stable a1, hSt a2, fun w hw => a4 w hw.1, h _ _ _ x2 a3⟩
  · rename_i hn1 hn3
    split at hh
    · exact absurd rfl hn1
    · exact absurd rfl hn3
    · obtain ⟨v, h1, h2⟩ := hh
      exact ⟨v, fun w hw => h1 w hw.1, h _ _ _ hb h2⟩
/-- The same, where the block's pointer lies in a variable that is not read. -/
theorem Alt.floatP {o : Oper} {K K' : Post} {a : Act} {S : WP} {B : BP} {b : Nat} {c : Array Value} {t : TypeId} {d : Option Tmp} {v : Value} (hex : execOp (a.put d v).eval o = execOp a.eval o) (hpc : ∀ u, (a.put d v).put o.dst u = (a.put o.dst u).put d v) (hb : ¬ B b)
    (h : ∀ a S B, ¬ B b → K a S B → K' (a.put d v) (Fw.With S b c t) B) :
    ∀ {k : Nat}, Alt P St o K a S B k → Alt P St o K' (a.put d v) (Fw.With S b c t) B k := by
  intro k hh
  have step : ∀ {N : Value → WP → BP → Prop}, (∀ w, S w → atR P o a w fun u w' => ∃ S' B', N u S' B' ∧ S' w' ∧ Left B B' w w') → ∀ w, Fw.With S b c t w → atR P o (a.put d v) w fun u w' => ∃ S'' B', (∃ S', N u S' B' ∧ ¬ B' b ∧ S'' = Fw.With S' b c t) ∧ S'' w' ∧ Left B B' w w' := fun {N} h1 w hw => atR_same (put_size _ _ _) hex (atR_mono (h1 w hw.1) fun u w' ⟨S', B', x1, x2, x3⟩ => by
    have hlt := hw.2.lt
    have hn : ¬ B' b := fun hB => by
      rcases x3.claims b hB with e | e
      · exact hb e
      · omega
    exact ⟨_, B', ⟨S', x1, hn, rfl⟩, ⟨x2, (x3.stays b hlt hb).trans hw.2⟩, x3⟩)
  unfold Alt at hh ⊢
  split
  · obtain ⟨N, h1, h2⟩ := hh
    refine ⟨fun u S'' B' => ∃ S', N u S' B' ∧ ¬ B' b ∧ S'' = Fw.With S' b c t, step h1, fun u S'' B' ⟨S', x1, x2, x3⟩ => ?_⟩
    subst x3
    obtain ⟨a1, a2, a4, a3⟩ := h2 u S' B' x1
    exact ⟨Fw.With.stable a1, fun w hw => ⟨a2 w hw.1, hw.2⟩, fun w hw => a4 w hw.1, by rw [hpc]; exact h _ _ _ x2 a3⟩
  · obtain ⟨N, h1, h2⟩ := hh
    refine ⟨fun u S'' B' => ∃ S', N u S' B' ∧ ¬ B' b ∧ S'' = Fw.With S' b c t, step h1, fun u S'' B' ⟨S', x1, x2, x3⟩ => ?_⟩
    subst x3
    obtain ⟨a1, a2, a4, a3⟩ := h2 u S' B' x1
    exact ⟨Fw.With.stable a1, fun w hw => a2 w hw.1, fun w hw => a4 w hw.1, by rw [hpc]; exact h _ _ _ x2 a3⟩
  · rename_i hn1 hn3
    split at hh
    · exact absurd rfl hn1
    · exact absurd rfl hn3
    · obtain ⟨u, h1, h2⟩ := hh
      exact ⟨u, fun w hw => atR_same (put_size _ _ _) hex (h1 w hw.1), by rw [hpc]; exact h _ _ _ hb h2⟩
/-- A head's way, in an order of ours. -/
def wpV (P : Program) (ops : Array Oper) (St : WP) (L : Post) : List Mv → Post
  | [], a, S, B => L a S B
  | .q i :: r, a, S, B => ∃ o, ops[i]? = some o ∧ ∃ v, Fw.Yld P ops St false o v a S ∧ wpV P ops St L r (a.put o.dst v) S B
  | .p i :: r, a, S, B => ∃ o, ops[i]? = some o ∧ ∃ v, Fw.Yld P ops St true o v a S ∧ wpV P ops St L r (a.put o.dst v) S B
  | .g i :: r, a, S, B => ∃ o, ops[i]? = some o ∧ ((Region.wanted o (yielded ops a.tmps) = true ∧ Alt P St o (wpV P ops St L r) a S B 1) ∨ (Region.wanted o (yielded ops a.tmps) = false ∧ wpV P ops St L r (a.put o.dst undef) S B))
  | .c i :: r, a, S, B => ∃ o, ops[i]? = some o ∧ Region.wanted o (yielded ops a.tmps) = true ∧ Alt P St o (wpV P ops St L r) a S B 3
  | .gg _ _ :: _, _, _, _ => False
def mvI : Mv → Nat
  | .q i | .p i | .g i | .c i => i
  | .gg i _ => i
/-- What is done beside a block that nobody claims is done as if it were not there. -/
theorem wpV.float {fo : Oper} {L L' : Post} {b : Nat} {c : Array Value} {t : TypeId} {v : Value} (hsel : ∀ (j : Nat) (o : Oper) cs b, ops[j]? = some o → o.op ≠ .select cs b) (hL : ∀ a0 S0 B', ¬ B' b → L a0 S0 B' → L' (a0.put fo.dst v) (Fw.With S0 b c t) B') :
    ∀ (l : List Mv) (a : Act) (S : WP) (B : BP), (∀ m ∈ l, ∀ o, ops[mvI m]? = some o → fo.apart ops o = true) → ¬ B b → wpV P ops St L l a S B →
      wpV P ops St L' l (a.put fo.dst v) (Fw.With S b c t) B
  | [], a, S, B, _, hb, h => hL _ _ _ hb h
  | m :: l, a, S, B, hap, hb, h => by
    have ih := fun a S B => wpV.float (L := L) (L' := L') (fo := fo) (b := b) (c := c) (t := t) (v := v) hsel hL l a S B fun m' hm => hap m' (by simp [hm])
    have key : ∀ {o}, ops[mvI m]? = some o → (∀ a : Act, execOp (a.put fo.dst v).eval o = execOp a.eval o) ∧ (∀ a : Act, Region.wanted o (yielded ops (a.put fo.dst v).tmps) = Region.wanted o (yielded ops a.tmps)) ∧ ∀ (a : Act) u, (a.put fo.dst v).put o.dst u = (a.put o.dst u).put fo.dst v := fun {o} ho => by
      obtain ⟨p1, p2, p3⟩ := Oper.apart_spec (hap m (by simp) o ho)
      exact ⟨fun a => execOp_put o (fun cs b => hsel _ o cs b ho) a fo.dst v p1, fun a => wanted_put o a fo.dst v p1, fun a u => Act.put_comm a v u p2⟩
    cases m with
    | q i =>
      obtain ⟨o, ho, u, hy, hK⟩ := h
      obtain ⟨k1, k2, k3⟩ := key ho
      refine ⟨o, ho, u, Fw.Yld.less (hy.same (k1 a) (k2 a) (put_size _ _ _)) (.inr fun w hw => hw.1), ?_⟩
      rw [k3]
      exact ih _ _ _ hb hK
    | p i =>
      obtain ⟨o, ho, u, hy, hK⟩ := h
      obtain ⟨k1, k2, k3⟩ := key ho
      refine ⟨o, ho, u, Fw.Yld.less (hy.same (k1 a) (k2 a) (put_size _ _ _)) (.inl rfl), ?_⟩
      rw [k3]
      exact ih _ _ _ hb hK
    | g i =>
      obtain ⟨o, ho, ⟨hw, h1⟩ | ⟨hw, h1⟩⟩ := h
      · obtain ⟨k1, k2, k3⟩ := key ho
        exact ⟨o, ho, .inl ⟨by rw [k2]; exact hw, Alt.floatP (k1 a) (k3 a) hb (fun a S B hb' hk => ih a S B hb' hk) h1⟩⟩
      · obtain ⟨k1, k2, k3⟩ := key ho
        refine ⟨o, ho, .inr ⟨by rw [k2]; exact hw, ?_⟩⟩
        rw [k3]
        exact ih _ _ _ hb h1
    | c i =>
      obtain ⟨o, ho, hw, h1⟩ := h
      obtain ⟨k1, k2, k3⟩ := key ho
      exact ⟨o, ho, by rw [k2]; exact hw, Alt.floatP (k1 a) (k3 a) hb (fun a S B hb' hk => ih a S B hb' hk) h1⟩
    | gg i j => exact h.elim
/-- Claims forgotten. -/
theorem wpV.to {L : Post} {L2 : Fw.Post} (hL : ∀ a S B, (Fw.Stable S ∧ ∀ w, S w → St w) → L a S B → L2 a S) : ∀ (l : List Mv) (a : Act) (S : WP) (B : BP), (Fw.Stable S ∧ ∀ w, S w → St w) → wpV P ops St L l a S B → Fw.wpG P ops St L2 l a S
  | [], a, S, B, hS, h => hL _ _ _ hS h
  | .q i :: l, a, S, B, hS, ⟨o, ho, u, hy, hK⟩ => ⟨o, ho, u, hy, wpV.to hL l _ _ _ hS hK⟩
  | .p i :: l, a, S, B, hS, ⟨o, ho, u, hy, hK⟩ => ⟨o, ho, u, hy, wpV.to hL l _ _ _ hS hK⟩
  | .g i :: l, a, S, B, hS, ⟨o, ho, .inl ⟨hw, h1⟩⟩ => ⟨o, ho, .inl ⟨hw, h1.to.mono hS fun a S hS' ⟨B, hk⟩ => wpV.to hL l _ _ B hS' hk⟩⟩
  | .g i :: l, a, S, B, hS, ⟨o, ho, .inr ⟨hw, h1⟩⟩ => ⟨o, ho, .inr ⟨hw, wpV.to hL l _ _ B hS h1⟩⟩
  | .c i :: l, a, S, B, hS, ⟨o, ho, hw, h1⟩ => ⟨o, ho, hw, h1.to.mono hS fun a S hS' ⟨B, hk⟩ => wpV.to hL l _ _ B hS' hk⟩
  | .gg _ _ :: _, _, _, _, _, h => h.elim
theorem wpG_app {L : Fw.Post} {pl : List Mv} : ∀ l : List Mv, Fw.wpG P ops St L (l ++ pl) = Fw.wpG P ops St (Fw.wpG P ops St L pl) l := by
  intro l
  induction l with
  | nil => rfl
  | cons m l ih => funext a S; cases m <;> simp only [List.cons_append, Fw.wpG, ih]
/-- An order, beside which one allocation may come at any time; pl is what waits for it. -/
def OrderF (md : Region.Mode) (ops : Array Oper) (n g : Nat) (kd : Nat → Nat) (fi : Nat) (pl : List Mv) : List Mv → Array Bool → Prop
  | [], listed => (fi < n ∧ kd fi = 1 ∧ fi ∈ Region.ready md ops listed) ∧ (∀ j, j ∈ Region.ready md ops listed → j = fi) ∧ Order md ops n g kd pl (listed.setIfInBounds fi true)
  | .q i :: r, listed => i < n ∧ (kd i ≠ 1 ∧ kd i ≠ 3) ∧ i ∈ Region.ready md ops listed ∧ (∀ oi, ops[i]? = some oi → ∀ j oj, ops[j]? = some oj → j ≠ i → listed.getD j true = false → (∀ e ∈ oj.after, Region.binds md e = true → e.on ≠ i) → oi.apart ops oj = true) ∧
      (∀ j, kd j = 3 → listed.getD j true = false → Upto md ops j i) ∧ OrderF md ops n g kd fi pl r (listed.setIfInBounds i true)
  | .p i :: r, listed => i < n ∧ (kd i ≠ 1 ∧ kd i ≠ 3) ∧ i ∈ Region.ready md ops listed ∧ (∀ oi, ops[i]? = some oi → ∀ j oj, ops[j]? = some oj → j ≠ i → listed.getD j true = false → (∀ e ∈ oj.after, Region.binds md e = true → e.on ≠ i) → oi.apart ops oj = true) ∧
      OrderF md ops n g kd fi pl r (listed.setIfInBounds i true)
  | .g i :: r, listed => (i < n ∧ kd i = 1 ∧ i ∈ Region.ready md ops listed) ∧ (fi < n ∧ kd fi = 1 ∧ fi ∈ Region.ready md ops listed) ∧ (∀ j, j ∈ Region.ready md ops listed → j = i ∨ j = fi) ∧ Order md ops n g kd (.g i :: (r ++ pl)) (listed.setIfInBounds fi true) ∧ OrderF md ops n g kd fi pl r (listed.setIfInBounds i true)
  | .c i :: r, listed => (i < n ∧ kd i = 3 ∧ i ∈ Region.ready md ops listed) ∧ (fi < n ∧ kd fi = 1 ∧ fi ∈ Region.ready md ops listed) ∧ (∀ j, j ∈ Region.ready md ops listed → j = i ∨ j = fi) ∧ Order md ops n g kd (.c i :: (r ++ pl)) (listed.setIfInBounds fi true) ∧ OrderF md ops n g kd fi pl r (listed.setIfInBounds i true)
  | .gg _ _ :: _, _ => False
/-- The claims are bounded, too. -/
theorem Alt.bd {o : Oper} {K : Post} {K' : Fw.Post} {a : Act} {S : WP} {B : BP} (hS : Fw.Stable S ∧ ∀ w, S w → St w) (hBd : ∀ w, S w → ∀ b, B b → b < w.heap.size)
    (h : ∀ u S B, (Fw.Stable S ∧ ∀ w, S w → St w) → (∀ w, S w → ∀ b, B b → b < w.heap.size) → K (a.put o.dst u) S B → K' (a.put o.dst u) S) : ∀ {k : Nat}, Alt P St o K a S B k → Fw.Alt P St o K' a S k := by
  intro k hh
  unfold Alt at hh
  unfold Fw.Alt
  split
  · obtain ⟨N, h1, h2⟩ := hh
    exact ⟨fun u S' => ∃ B', N u S' B', fun w hw => atR_mono (h1 w hw) fun u w' ⟨S', B', x1, x2, _⟩ => ⟨S', ⟨B', x1⟩, x2⟩, fun u S' ⟨B', x⟩ => let ⟨a1, a2, a4, a3⟩ := h2 u S' B' x; ⟨a1, a2, h _ _ _ ⟨a1, fun w hw => hS.2 w (a2 w hw)⟩ a4 a3⟩⟩
  · obtain ⟨N, h1, h2⟩ := hh
    exact ⟨fun u S' => ∃ B', N u S' B', fun w hw => atR_mono (h1 w hw) fun u w' ⟨S', B', x1, x2, _⟩ => ⟨S', ⟨B', x1⟩, x2⟩, fun u S' ⟨B', x⟩ => let ⟨a1, a2, a4, a3⟩ := h2 u S' B' x; ⟨a1, a2, h _ _ _ ⟨a1, a2⟩ a4 a3⟩⟩
  · rename_i hn1 hn3
    split at hh
    · exact absurd rfl hn1
    · exact absurd rfl hn3
    · obtain ⟨v, h1, h2⟩ := hh; exact ⟨v, h1, h _ _ _ hS hBd h2⟩
/-- A head's way, beside which one allocation may come at any time. -/
theorem walkF {md : Region.Mode} {n g fi : Nat} {kd : Nat → Nat} {fo : Oper} {L : Fw.Post} {pl : List Mv} {mk : Nat → Value} {c : Array Value} {t : TypeId} (hsel : Region.noSelect ops = true) (hT : TailW md ops n) (hfo : ops[fi]? = some fo) (hwf : ∀ a : Act, Region.wanted fo (yielded ops a.tmps) = true) :
    ∀ (l : List Mv) (listed : Array Bool) (a : Act) (S : WP) (B : BP), (∀ w, St w → atA P fo a w mk c t) → (Fw.Stable S ∧ ∀ w, S w → St w) → (∀ w, S w → ∀ b, B b → b < w.heap.size) → (∀ m ∈ l, ∀ o, ops[mvI m]? = some o → fo.apart ops o = true) → HeadInv md ops n listed → OrderF md ops n g kd fi pl l listed →
      wpV P ops St (fun a' S' B' => ∀ b, ¬ B' b → Fw.Stable (Fw.With S' b c t) → Fw.wpG P ops St L pl (a'.put fo.dst (mk b)) (Fw.With S' b c t)) l a S B →
      Fw.wpAnyG P md ops St kd n (fun listed' a' S' => Region.seqB md ops g n listed' = true ∧ L a' S') (counts (l ++ pl) + 1) listed a S := by
  have hfs : ∀ cs b, fo.op ≠ .select cs b := fun cs b => Region.noSelect_spec hsel fi fo cs b hfo
  have early : ∀ (l : List Mv) (listed : Array Bool) (a : Act) (S : WP) (B : BP), (∀ w, St w → atA P fo a w mk c t) → (Fw.Stable S ∧ ∀ w, S w → St w) → (∀ w, S w → ∀ b, B b → b < w.heap.size) → (∀ m ∈ l, ∀ o, ops[mvI m]? = some o → fo.apart ops o = true) → HeadInv md ops n listed → (fi < n ∧ kd fi = 1 ∧ fi ∈ Region.ready md ops listed) → Order md ops n g kd (l ++ pl) (listed.setIfInBounds fi true) →
      wpV P ops St (fun a' S' B' => ∀ b, ¬ B' b → Fw.Stable (Fw.With S' b c t) → Fw.wpG P ops St L pl (a'.put fo.dst (mk b)) (Fw.With S' b c t)) l a S B →
      Fw.gOp P ops St kd fi (Fw.wpAnyG P md ops St kd n (fun listed' a' S' => Region.seqB md ops g n listed' = true ∧ L a' S') (counts (l ++ pl)) (listed.setIfInBounds fi true)) a S := by
    intro l listed a S B hmk hS hBd hap inv hf hO h
    unfold Fw.gOp
    simp only [hfo, hwf, if_true, hf.2.1]
    refine ⟨_, fun w hc => Fw.with_of_A hS.1 hc (hmk w (hS.2 w hc)), fun v S1 ⟨b, ⟨w0, x1, x2⟩, e1, e2⟩ => ?_⟩
    subst e1; subst e2
    have hb : ¬ B b := fun hB => by have := hBd w0 x1 b hB; omega
    have hS' : Fw.Stable (Fw.With S b c t) ∧ ∀ w, Fw.With S b c t w → St w := ⟨Fw.With.stable hS.1, fun w hw => hS.2 w hw.1⟩
    refine ⟨Fw.With.stable hS.1, fun w hw => hw.1, Fw.wpAnyG_of_walk hsel hT (l ++ pl) _ _ _ hS' (inv.set hf.2.2 hf.1) hO ?_⟩
    rw [wpG_app]
    exact wpV.to (L := fun a S _ => Fw.Stable S → Fw.wpG P ops St L pl a S) (L2 := Fw.wpG P ops St L pl) (fun a S B hS h => h hS.1) l _ _ B hS' (wpV.float (L' := fun a S _ => Fw.Stable S → Fw.wpG P ops St L pl a S) (fun j o cs b ho => Region.noSelect_spec hsel j o cs b ho) (fun a0 S0 B' hn hl => hl b hn) l a S B hap hb h)
  have keepA : ∀ {m : Mv} {o : Oper} {a : Act} (v : Value), fo.apart ops o = true → (∀ w, St w → atA P fo a w mk c t) → ∀ w, St w → atA P fo (a.put o.dst v) w mk c t := fun {m o a} v hap h w hw => by
    obtain ⟨p1, p2, p3⟩ := Oper.apart_spec hap
    exact atR_same (put_size _ _ _) (execOp_put fo hfs a o.dst v p3) (h w hw)
  intro l
  induction l with
  | nil =>
    intro listed a S B hmk hS hBd hap inv hO h
    obtain ⟨hf, hr', hq⟩ := hO
    refine ⟨fun e => (by have := hf.2.2; rw [e] at this; cases this), fun j hj => ?_⟩
    obtain rfl := hr' j hj
    exact ⟨hf.1, early [] listed a S B hmk hS hBd hap inv hf hq h⟩
  | cons m l ih =>
    intro listed a S B hmk hS hBd hap inv hO h
    have hap' : ∀ m' ∈ l, ∀ o, ops[mvI m']? = some o → fo.apart ops o = true := fun m' hm => hap m' (by simp [hm])
    cases m with
    | q i =>
      obtain ⟨o, ho, v, hy, hK⟩ := h
      obtain ⟨hin, hk, hr, hf, hc, hB'⟩ := hO
      exact Fw.wpAnyG_first ho hk (Region.noSelect_spec hsel) hT hin (fun listed' a' S' hL => seqB_ready hL.1) (counts (l ++ pl) + 1) listed a S hS inv (hf o ho) (.inr hc) hr hy
        (ih _ _ S B (keepA (m := .q i) v (hap (.q i) (by simp) o ho) hmk) hS hBd hap' (inv.set hr hin) hB' hK)
    | p i =>
      obtain ⟨o, ho, v, hy, hK⟩ := h
      obtain ⟨hin, hk, hr, hf, hB'⟩ := hO
      exact Fw.wpAnyG_first ho hk (Region.noSelect_spec hsel) hT hin (fun listed' a' S' hL => seqB_ready hL.1) (counts (l ++ pl) + 1) listed a S hS inv (hf o ho) (.inl rfl) hr hy
        (ih _ _ S B (keepA (m := .p i) v (hap (.p i) (by simp) o ho) hmk) hS hBd hap' (inv.set hr hin) hB' hK)
    | g i =>
      have h0 := h
      obtain ⟨o, ho, h1⟩ := h
      obtain ⟨hi, hf, hr', hO1, hO2⟩ := hO
      refine ⟨fun e => (by have := hf.2.2; rw [e] at this; cases this), fun j hj => ?_⟩
      rcases hr' j hj with rfl | rfl
      · refine ⟨hi.1, ?_⟩
        unfold Fw.gOp
        rcases h1 with ⟨hw, h1⟩ | ⟨hw, h1⟩
        · simp only [ho, hw, if_true, hi.2.1]
          exact h1.bd hS hBd fun u S' B' hS' hBd' hk => ih _ _ S' B' (keepA (m := .g j) u (hap (.g j) (by simp) o ho) hmk) hS' hBd' hap' (inv.set hi.2.2 hi.1) hO2 hk
        · simp only [ho, hw, Bool.false_eq_true, if_false]
          exact ih _ _ S B (keepA (m := .g j) undef (hap (.g j) (by simp) o ho) hmk) hS hBd hap' (inv.set hi.2.2 hi.1) hO2 h1
      · exact ⟨hf.1, early (.g i :: l) listed a S B hmk hS hBd hap inv hf hO1 h0⟩
    | c i =>
      have h0 := h
      obtain ⟨o, ho, hw, h1⟩ := h
      obtain ⟨hi, hf, hr', hO1, hO2⟩ := hO
      refine ⟨fun e => (by have := hf.2.2; rw [e] at this; cases this), fun j hj => ?_⟩
      rcases hr' j hj with rfl | rfl
      · refine ⟨hi.1, ?_⟩
        unfold Fw.gOp
        simp only [ho, hw, if_true, hi.2.1]
        exact h1.bd hS hBd fun u S' B' hS' hBd' hk => ih _ _ S' B' (keepA (m := .c j) u (hap (.c j) (by simp) o ho) hmk) hS' hBd' hap' (inv.set hi.2.2 hi.1) hO2 hk
      · exact ⟨hf.1, early (.c i :: l) listed a S B hmk hS hBd hap inv hf hO1 h0⟩
    | gg i j => exact h.elim
def isQP : Mv → Bool
  | .q _ | .p _ => true
  | _ => false
/-- Ahead of it, what the allocation is made of. -/
theorem walkF0 {md : Region.Mode} {n g fi : Nat} {kd : Nat → Nat} {fo : Oper} {L : Fw.Post} {pl : List Mv} (hsel : Region.noSelect ops = true) (hT : TailW md ops n) (hfo : ops[fi]? = some fo) (hwf : ∀ a : Act, Region.wanted fo (yielded ops a.tmps) = true) {l2 : List Mv} (hap : ∀ m ∈ l2, ∀ o, ops[mvI m]? = some o → fo.apart ops o = true) :
    ∀ (l : List Mv) (listed : Array Bool) (a : Act) (S : WP) (B : BP), (∀ m ∈ l, isQP m = true) → (Fw.Stable S ∧ ∀ w, S w → St w) → (∀ w, S w → ∀ b, B b → b < w.heap.size) → HeadInv md ops n listed → OrderF md ops n g kd fi pl (l ++ l2) listed →
      wpV P ops St (fun a1 S1 B1 => (Fw.Stable S1 ∧ ∀ w, S1 w → St w) → (∀ w, S1 w → ∀ b, B1 b → b < w.heap.size) → ∃ (mk : Nat → Value) (c : Array Value) (t : TypeId), (∀ w, St w → atA P fo a1 w mk c t) ∧ wpV P ops St (fun a' S' B' => ∀ b, ¬ B' b → Fw.Stable (Fw.With S' b c t) → Fw.wpG P ops St L pl (a'.put fo.dst (mk b)) (Fw.With S' b c t)) l2 a1 S1 B1) l a S B →
      Fw.wpAnyG P md ops St kd n (fun listed' a' S' => Region.seqB md ops g n listed' = true ∧ L a' S') (counts (l ++ l2 ++ pl) + 1) listed a S
  | [], listed, a, S, B, hq, hS, hBd, inv, hO, h => by
    obtain ⟨mk, c, t, h1, h2⟩ := h hS hBd
    exact walkF hsel hT hfo hwf l2 listed a S B h1 hS hBd hap inv hO h2
  | .q i :: l, listed, a, S, B, hq, hS, hBd, inv, hO, h => by
    obtain ⟨o, ho, v, hy, hK⟩ := h
    obtain ⟨hin, hk, hr, hf, hc, hB'⟩ := hO
    exact Fw.wpAnyG_first ho hk (Region.noSelect_spec hsel) hT hin (fun listed' a' S' hL => seqB_ready hL.1) (counts (l ++ l2 ++ pl) + 1) listed a S hS inv (hf o ho) (.inr hc) hr hy
      (walkF0 hsel hT hfo hwf hap l _ _ S B (fun m hm => hq m (by simp [hm])) hS hBd (inv.set hr hin) hB' hK)
  | .p i :: l, listed, a, S, B, hq, hS, hBd, inv, hO, h => by
    obtain ⟨o, ho, v, hy, hK⟩ := h
    obtain ⟨hin, hk, hr, hf, hB'⟩ := hO
    exact Fw.wpAnyG_first ho hk (Region.noSelect_spec hsel) hT hin (fun listed' a' S' hL => seqB_ready hL.1) (counts (l ++ l2 ++ pl) + 1) listed a S hS inv (hf o ho) (.inl rfl) hr hy
      (walkF0 hsel hT hfo hwf hap l _ _ S B (fun m hm => hq m (by simp [hm])) hS hBd (inv.set hr hin) hB' hK)
  | .g i :: l, listed, a, S, B, hq, hS, hBd, inv, hO, h => by cases hq (.g i) (by simp)
  | .c i :: l, listed, a, S, B, hq, hS, hBd, inv, hO, h => by cases hq (.c i) (by simp)
  | .gg i j :: l, listed, a, S, B, hq, hS, hBd, inv, hO, h => by cases hq (.gg i j) (by simp)
end
section table
variable {md : Region.Mode} {l : List Oper} {T0 : List Row4}
/-- The allocation beside is ready. -/
def fB (T0 : List Row4) (C G n fi D : Nat) : Bool := Nat.blt fi n && !has C fi && has G fi && (match T0[fi]? with | some x => readyM D x | none => false)
def addF (fi : Nat) (ord : List (Mv × Nat)) : List (Mv × Nat) := ord.map fun p => (p.1, Nat.lor p.2 (Nat.shiftLeft 1 fi))
def orderFM (T0 : List Row4) (C G n g : Nat) (tl : List (Nat × Nat)) (fi : Nat) (po : List (Mv × Nat)) : List (Mv × Nat) → Nat → Bool
  | [], D => fB T0 C G n fi D && onlyM D (Nat.shiftLeft 1 fi) T0 && orderM T0 C G n g tl po (Nat.lor D (Nat.shiftLeft 1 fi))
  | (.q i, D') :: r, D => Nat.blt i n && !has C i && !has G i && Nat.beq D' (Nat.lor D (Nat.shiftLeft 1 i)) && (match T0[i]? with | some x => readyM D x && freeM D x T0 | none => false) && chgM C D i T0 && orderFM T0 C G n g tl fi po r D'
  | (.p i, D') :: r, D => Nat.blt i n && !has C i && !has G i && Nat.beq D' (Nat.lor D (Nat.shiftLeft 1 i)) && (match T0[i]? with | some x => readyM D x && freeM D x T0 | none => false) && orderFM T0 C G n g tl fi po r D'
  | (.g i, D') :: r, D => Nat.blt i n && !has C i && has G i && Nat.beq D' (Nat.lor D (Nat.shiftLeft 1 i)) && (match T0[i]? with | some x => readyM D x | none => false) && fB T0 C G n fi D && onlyM D (Nat.lor (Nat.shiftLeft 1 i) (Nat.shiftLeft 1 fi)) T0 && orderM T0 C G n g tl (addF fi ((.g i, D') :: r) ++ po) (Nat.lor D (Nat.shiftLeft 1 fi)) && orderFM T0 C G n g tl fi po r D'
  | (.c i, D') :: r, D => Nat.blt i n && has C i && Nat.beq D' (Nat.lor D (Nat.shiftLeft 1 i)) && (match T0[i]? with | some x => readyM D x | none => false) && fB T0 C G n fi D && onlyM D (Nat.lor (Nat.shiftLeft 1 i) (Nat.shiftLeft 1 fi)) T0 && orderM T0 C G n g tl (addF fi ((.c i, D') :: r) ++ po) (Nat.lor D (Nat.shiftLeft 1 fi)) && orderFM T0 C G n g tl fi po r D'
  | (.gg _ _, _) :: _, _ => false
theorem addF_fst (fi : Nat) (ord : List (Mv × Nat)) : (addF fi ord).map (·.1) = ord.map (·.1) := by
  simp [addF]
variable (ht : tableB md l.toArray 0 l T0 = true)
include ht
theorem fB_spec {C G n fi D : Nat} {listed : Array Bool} (hL : Lst l.toArray D listed) (h : fB T0 C G n fi D = true) : (fi < n ∧ kinds C G fi = 1 ∧ fi ∈ Region.ready md l.toArray listed) ∧ fi < l.toArray.size := by
  simp only [fB, Bool.and_eq_true, Bool.not_eq_true'] at h
  obtain ⟨⟨⟨hn, hC⟩, hG⟩, hx⟩ := h
  cases hT : T0[fi]? with
  | none => rw [hT] at hx; cases hx
  | some x =>
    rw [hT] at hx
    obtain ⟨o, hoi, rfl⟩ := row_get ht hT
    have hi : fi < l.toArray.size := by simpa using (List.getElem?_eq_some_iff.1 hoi).1
    exact ⟨⟨Nat.le_of_ble_eq_true hn, by simp [kinds, hC, hG], (ready_bit hL hoi).2 hx⟩, hi⟩
theorem two_spec {D i fi : Nat} {listed : Array Bool} (hL : Lst l.toArray D listed) (h : onlyM D (Nat.lor (Nat.shiftLeft 1 i) (Nat.shiftLeft 1 fi)) T0 = true) (j : Nat) (hj : j ∈ Region.ready md l.toArray listed) : j = i ∨ j = fi := by
  have := only_spec ht hL h j hj
  rw [bit_lor, bit_shift, bit_shift, Bool.or_eq_true] at this
  exact this.imp (fun e => (of_decide_eq_true e).symm) (fun e => (of_decide_eq_true e).symm)
theorem orderF_spec {C G n g fi : Nat} {tl : List (Nat × Nat)} {po : List (Mv × Nat)} : ∀ (ord : List (Mv × Nat)) (D : Nat) (listed : Array Bool), Lst l.toArray D listed → orderFM T0 C G n g tl fi po ord D = true → OrderF md l.toArray n g (kinds C G) fi (po.map (·.1)) (ord.map (·.1)) listed
  | [], D, listed, hL, h => by
    simp only [orderFM, Bool.and_eq_true] at h
    obtain ⟨⟨h1, h2⟩, h3⟩ := h
    obtain ⟨hf, hfi⟩ := fB_spec ht hL h1
    exact ⟨hf, fun j hj => by have := only_spec ht hL h2 j hj; rw [bit_shift] at this; exact (of_decide_eq_true this).symm, order_spec ht _ _ _ (hL.set hfi) h3⟩
  | (.q i, D') :: r, D, listed, hL, h => by
    simp only [orderFM, Bool.and_eq_true, Bool.not_eq_true'] at h
    obtain ⟨⟨⟨⟨⟨⟨hn, hC⟩, hG⟩, hD⟩, hx⟩, hc⟩, h2⟩ := h
    obtain rfl := Nat.eq_of_beq_eq_true hD
    cases hT : T0[i]? with
    | none => rw [hT] at hx; cases hx
    | some x =>
      rw [hT] at hx
      simp only [Bool.and_eq_true] at hx
      obtain ⟨o, hoi, rfl⟩ := row_get ht hT
      have hi : i < l.toArray.size := by simpa using (List.getElem?_eq_some_iff.1 hoi).1
      exact ⟨Nat.le_of_ble_eq_true hn, by simp [kinds, hC, hG], (ready_bit hL hoi).2 hx.1, free_spec ht hT hL hx.2, chg_spec ht hL hc, orderF_spec r _ _ (hL.set hi) h2⟩
  | (.p i, D') :: r, D, listed, hL, h => by
    simp only [orderFM, Bool.and_eq_true, Bool.not_eq_true'] at h
    obtain ⟨⟨⟨⟨⟨hn, hC⟩, hG⟩, hD⟩, hx⟩, h2⟩ := h
    obtain rfl := Nat.eq_of_beq_eq_true hD
    cases hT : T0[i]? with
    | none => rw [hT] at hx; cases hx
    | some x =>
      rw [hT] at hx
      simp only [Bool.and_eq_true] at hx
      obtain ⟨o, hoi, rfl⟩ := row_get ht hT
      have hi : i < l.toArray.size := by simpa using (List.getElem?_eq_some_iff.1 hoi).1
      exact ⟨Nat.le_of_ble_eq_true hn, by simp [kinds, hC, hG], (ready_bit hL hoi).2 hx.1, free_spec ht hT hL hx.2, orderF_spec r _ _ (hL.set hi) h2⟩
  | (.g i, D') :: r, D, listed, hL, h => by
    simp only [orderFM, Bool.and_eq_true, Bool.not_eq_true'] at h
    obtain ⟨⟨⟨⟨⟨⟨⟨⟨hn, hC⟩, hG⟩, hD⟩, hx⟩, hf⟩, hc⟩, ho⟩, h2⟩ := h
    obtain ⟨hf, hfi⟩ := fB_spec ht hL hf
    have ho' := order_spec ht _ _ _ (hL.set hfi) ho
    rw [List.map_append, addF_fst] at ho'
    obtain rfl := Nat.eq_of_beq_eq_true hD
    cases hT : T0[i]? with
    | none => rw [hT] at hx; cases hx
    | some x =>
      rw [hT] at hx
      obtain ⟨o, hoi, rfl⟩ := row_get ht hT
      have hi : i < l.toArray.size := by simpa using (List.getElem?_eq_some_iff.1 hoi).1
      exact ⟨⟨Nat.le_of_ble_eq_true hn, by simp [kinds, hC, hG], (ready_bit hL hoi).2 hx⟩, hf, two_spec ht hL hc, ho', orderF_spec r _ _ (hL.set hi) h2⟩
  | (.c i, D') :: r, D, listed, hL, h => by
    simp only [orderFM, Bool.and_eq_true, Bool.not_eq_true'] at h
    obtain ⟨⟨⟨⟨⟨⟨⟨hn, hC⟩, hD⟩, hx⟩, hf⟩, hc⟩, ho⟩, h2⟩ := h
    obtain ⟨hf, hfi⟩ := fB_spec ht hL hf
    have ho' := order_spec ht _ _ _ (hL.set hfi) ho
    rw [List.map_append, addF_fst] at ho'
    obtain rfl := Nat.eq_of_beq_eq_true hD
    cases hT : T0[i]? with
    | none => rw [hT] at hx; cases hx
    | some x =>
      rw [hT] at hx
      obtain ⟨o, hoi, rfl⟩ := row_get ht hT
      have hi : i < l.toArray.size := by simpa using (List.getElem?_eq_some_iff.1 hoi).1
      exact ⟨⟨Nat.le_of_ble_eq_true hn, by simp [kinds, hC], (ready_bit hL hoi).2 hx⟩, hf, two_spec ht hL hc, ho', orderF_spec r _ _ (hL.set hi) h2⟩
  | (.gg i j, D') :: r, D, listed, hL, h => by cases h
end table
section region
variable {P : Program}
/-- What is asked of a region whose head has an allocation that may come at any time. -/
def regionFB (md : Region.Mode) (l : List Oper) (n C G : Nat) (T0 : List Row4) (ord : List (Mv × Nat)) (tl : List (Nat × Nat)) (fi k : Nat) (po : List (Mv × Nat)) (fo : Oper) : Bool :=
  tableB md l.toArray 0 l T0 && Region.noSelect l.toArray && (Nat.beq n l.length || (Nat.blt n l.length && sinkM n T0 && chainM n T0)) && Nat.beq (counts (ord.map (·.1) ++ po.map (·.1)) + 1) n && Nat.ble n l.length && orderFM T0 C G n (l.length - n) tl fi po ord 0 &&
    (((ord.map (·.1)).drop k).all fun m => match l.toArray[mvI m]? with | some o => fo.apart l.toArray o | none => true) && ((ord.map (·.1)).take k).all isQP && fo.guard.isNone
theorem wpAny_region_float {Q : Exit → Act → World → Prop} {a : Act} {w : World} {l : List Oper} (n C G : Nat) (T0 : List Row4) (ord : List (Mv × Nat)) (tl : List (Nat × Nat)) (fi k : Nat) (po : List (Mv × Nat)) {fo : Oper} (St S : WP) (B : BP) (hSt : ∀ w, S w → St w) (hSS : Fw.Stable S) (hBd : ∀ w, S w → ∀ b, B b → b < w.heap.size)
    (hB : regionFB .any l n C G T0 ord tl fi k po fo = true) (hfo : l.toArray[fi]? = some fo) (hO : S w.drew)
    (h : wpV P l.toArray St (fun a1 S1 B1 => (Fw.Stable S1 ∧ ∀ w, S1 w → St w) → (∀ w, S1 w → ∀ b, B1 b → b < w.heap.size) → ∃ (mk : Nat → Value) (c : Array Value) (t : TypeId), (∀ w, St w → atA P fo a1 w mk c t) ∧ wpV P l.toArray St (fun a' S' B' => ∀ b, ¬ B' b → Fw.Stable (Fw.With S' b c t) → Fw.wpG P l.toArray St (fun a2 S2 => ∀ w', Fw.Stable S2 → S2 w' → wpList P l.toArray Q (l.drop n) a2 w') (po.map (·.1)) (a'.put fo.dst (mk b)) (Fw.With S' b c t)) ((ord.map (·.1)).drop k) a1 S1 B1) ((ord.map (·.1)).take k) a S B) : wpAny P .any l.toArray Q l.toArray.size (Array.replicate l.toArray.size false) a w.drew := by
  simp only [regionFB, Bool.and_eq_true] at hB
  obtain ⟨⟨⟨⟨⟨⟨⟨⟨ht, hsel⟩, hT⟩, hlen⟩, hn⟩, hord⟩, hap⟩, hqp⟩, hg⟩ := hB
  have hlen := Nat.eq_of_beq_eq_true hlen
  have hn := Nat.le_of_ble_eq_true hn
  have hg0 : fo.guard = none := by simpa using hg
  have hdl : (l.drop n).length = l.length - n := by simp
  have inv0 : HeadInv .any l.toArray n (Array.replicate l.toArray.size false) :=
    ⟨by simp, fun j oj _ hl => (by rw [getD_replicate_false] at hl; cases hl), fun t _ ht => getD_in (by simpa using ht) (getD_replicate_false _ _)⟩
  have hL0 : Lst l.toArray 0 (Array.replicate l.toArray.size false) := ⟨by simp, fun j => by rw [getD_replicate_false]; simp⟩
  have hap' : ∀ m ∈ (ord.map (·.1)).drop k, ∀ o, l.toArray[mvI m]? = some o → fo.apart l.toArray o = true := fun m hm o ho => by
    have := List.all_eq_true.1 hap m hm
    rw [ho] at this
    exact this
  have hOF := orderF_spec ht ord 0 _ hL0 hord
  rw [← List.take_append_drop k (ord.map (·.1))] at hOF
  have HH := walkF0 (md := .any) (L := fun a' S' => ∀ w', Fw.Stable S' → S' w' → wpList P l.toArray Q (l.drop n) a' w') hsel (tail_spec ht hT) hfo (fun a => by simp [Region.wanted, hg0]) hap' ((ord.map (·.1)).take k) _ a S B (fun m hm => List.all_eq_true.1 hqp m hm) ⟨hSS, hSt⟩ hBd inv0 hOF h
  rw [List.take_append_drop] at HH
  have := Fw.wpAny_of_G (Q' := Q) (g := l.length - n) (fun listed a' S w' hS hC hL => by
    have := wpAny_of_seq (md := .any) (Q' := Q) (l.drop n) n listed a' w' (fun j => by simp [List.getElem?_drop]) (by rw [hdl]; exact hL.1) (hL.2 w' hS hC)
    rwa [hdl] at this) _ _ _ _ _ hSS hO HH
  rw [hlen, show n + (l.length - n) = l.toArray.size by simp; omega] at this
  exact this
theorem wp_region_float {id : Nat} {Q : Exit → Act → World → Prop} {a : Act} {w : World} {l : List Oper} (n C G : Nat) (T0 : List Row4) (ord : List (Mv × Nat)) (tl : List (Nat × Nat)) (fi k : Nat) (po : List (Mv × Nat)) {fo : Oper} (St S : WP) (B : BP) (hSt : ∀ w, S w → St w) (hSS : Fw.Stable S) (hBd : ∀ w, S w → ∀ b, B b → b < w.heap.size) (hm : P.follows .mixedOrders = true)
    (hB : regionFB .any l n C G T0 ord tl fi k po fo = true) (hfo : l.toArray[fi]? = some fo) (hO : S w.drew)
    (h : wpV P l.toArray St (fun a1 S1 B1 => (Fw.Stable S1 ∧ ∀ w, S1 w → St w) → (∀ w, S1 w → ∀ b, B1 b → b < w.heap.size) → ∃ (mk : Nat → Value) (c : Array Value) (t : TypeId), (∀ w, St w → atA P fo a1 w mk c t) ∧ wpV P l.toArray St (fun a' S' B' => ∀ b, ¬ B' b → Fw.Stable (Fw.With S' b c t) → Fw.wpG P l.toArray St (fun a2 S2 => ∀ w', Fw.Stable S2 → S2 w' → wpList P l.toArray Q (l.drop n) a2 w') (po.map (·.1)) (a'.put fo.dst (mk b)) (Fw.With S' b c t)) ((ord.map (·.1)).drop k) a1 S1 B1) ((ord.map (·.1)).take k) a S B) : (Code.region id l.toArray true).wp P Q a w :=
  wp_region_any hm (wpAny_region_float n C G T0 ord tl fi k po St S B hSt hSS hBd hB hfo hO h)
theorem regIn_float {a : Act} {w : World} {Q : Exit → Act → World → Prop} {lr : Nat} {id : Nat} {os : List Oper} (hd : noDefer os = true) (hq : ¬ LetsOut Q) (n C G : Nat) (T0 : List Row4) (ord : List (Mv × Nat)) (tl : List (Nat × Nat)) (fi k : Nat) (po : List (Mv × Nat)) {fo : Oper} (St S : WP) (B : BP) (hSt : ∀ w, S w → St w) (hSS : Fw.Stable S) (hBd : ∀ w, S w → ∀ b, B b → b < w.heap.size) (hm : P.follows .mixedOrders = true)
    (hB : regionFB .any os n C G T0 ord tl fi k po fo = true) (hfo : os.toArray[fi]? = some fo) (hO : S w.drew)
    (h : wpV P os.toArray St (fun a1 S1 B1 => (Fw.Stable S1 ∧ ∀ w, S1 w → St w) → (∀ w, S1 w → ∀ b, B1 b → b < w.heap.size) → ∃ (mk : Nat → Value) (c : Array Value) (t : TypeId), (∀ w, St w → atA P fo a1 w mk c t) ∧ wpV P os.toArray St (fun a' S' B' => ∀ b, ¬ B' b → Fw.Stable (Fw.With S' b c t) → Fw.wpG P os.toArray St (fun a2 S2 => ∀ w', Fw.Stable S2 → S2 w' → wpList P os.toArray Q (os.drop n) a2 w') (po.map (·.1)) (a'.put fo.dst (mk b)) (Fw.With S' b c t)) ((ord.map (·.1)).drop k) a1 S1 B1) ((ord.map (·.1)).take k) a S B) : (Code.region id os.toArray true).wpIn (Fence.wide.inRound lr) 0 P Q a w :=
  wpIn_region_any hm (anyIn (fun i o ho => noDefer_at hd ho) hq _ _ _ _ (wpAny_region_float n C G T0 ord tl fi k po St S B hSt hSS hBd hB hfo hO h))
end region
end Fv
end Go.Proofs.Ytcfomhnfhalmaaa
