/- Operations done. No program of its own. No condition. -/
import Derived.Test.YtjbleblllmbcbaaEy9
set_option linter.unusedVariables false
set_option linter.unusedSimpArgs false
namespace Go.Proofs.Ytjbleblllmbcbaa
open Go.RowKit
variable {D : List Deferred} {R : Rws}

theorem atR_skip {P : Program} {o : Oper} {a : Act} {w w' : World} {Q : Value → World → Prop} (hr : (execOp a.eval o).run P w = .ok .skip w') (hq : Q undef w') : atR P o a w Q := by
  unfold atR Oper.wp
  rw [hr]
  exact ⟨undef, rfl, hq⟩
theorem atR_value {P : Program} {o : Oper} {a : Act} {w w' : World} {V : Value} {Q : Value → World → Prop} (hr : (execOp a.eval o).run P w = .ok (.value V) w') (hq : Q V w') : atR P o a w Q := by
  unfold atR Oper.wp
  rw [hr]
  exact ⟨V, rfl, hq⟩
theorem drop_all {Hr Hr' : List RBlk} (h : nums Hr' = nums Hr) : nums Hr' = nums Hr ++ (nums Hr').drop Hr.length ∧ (nums Hr').drop Hr.length = [] := by
  have : (nums Hr').drop Hr.length = [] := by rw [h]; simp [nums]
  exact ⟨by rw [this, List.append_nil]; exact h, this⟩
theorem drop_one {Hr Hr' : List RBlk} {q : Num} (h : nums Hr' = nums Hr ++ [q]) : nums Hr' = nums Hr ++ (nums Hr').drop Hr.length ∧ (nums Hr').drop Hr.length = [q] := by
  have hl : (nums Hr).length = Hr.length := by simp [nums]
  have : (nums Hr').drop Hr.length = [q] := by rw [h, ← hl, List.drop_left]
  exact ⟨by rw [this]; exact h, this⟩
theorem rel_gsl0 {ρ : Nums} {l n c b s z : Nat} (h : ρ[l]? = some ⟨b, s, z⟩) (hn : n ≤ c) (hz : z = c * s) (hm : c ≤ maxLen) : Rel R ρ (.gsl l 0 n) (.slice (some ⟨b, 0, none⟩) n c) := by
  have := Rel.gsl (R := R) (ρ := ρ) (off := 0) h hn (by rw [Nat.zero_add]; exact hz.symm) hm
  simpa using this
section
variable {E : Env} (hE : EnvOK E)
include hE
theorem resP_sound {p : Bool} {r : Res} {o : Oper} {st : ASt} {K : ASt → Prop} (hop : opA E.P E.rows E.eqs st.m.H (evO st.tl) o.op = some r) (h : resP p r o st K) : ∃ st', K st' ∧ Did E.P E.rows p o st st' := by
  have fine : ∀ {D : List Deferred} {tv : List Value} {Hr : List RBlk}, (∀ c ∈ r.cs, c = true) → RelL E.rows (nums Hr) st.tl tv → RelB E.rows (nums Hr) st.m.H Hr → Fine E.P E.rows (nums Hr) st.m.H Hr (⟨tv.toArray, D⟩ : Act).eval o r :=
    fun {D tv Hr} hc ht hB => opA_sound hE.rows hE.eqs hB (fun _ _ e => nums_get e) (evO_sound (D := D) ht) hop hc
  cases r with
  | val v cs =>
    obtain ⟨hcs, hk⟩ := allT_spec h
    refine ⟨_, hk, .inl ⟨v, st.m.ds, rfl, @fun D a Hr hR => ?_⟩⟩
    obtain ⟨tv, rfl, ht, hB, hn⟩ := hR
    obtain ⟨V, h1, h2⟩ := fine (D := D) hcs ht hB
    exact ⟨V, h1, fun w hO => at1_run (h2 w hO)⟩
  | new cs t =>
    refine ⟨_, h, .inr (.inl ⟨opA_make hop rfl, _, .cells cs t, fun b => .pointer (some ⟨b, 0, none⟩), rfl, @fun D a Hr hR => ?_⟩)⟩
    obtain ⟨tv, rfl, ht, hB, hn⟩ := hR
    obtain ⟨Cs, h1, h2⟩ := fine (D := D) (by simp [Res.cs]) ht hB
    refine ⟨_, fun b => .cells h1, fun q => .ptr ?_, fun w hO => ?_⟩
    · rw [← hB.len]; simp [nums]
    · unfold atO atR Oper.wp
      rw [h2 w hO]
      exact ⟨_, rfl, rfl, rfl⟩
  | newS cs t n c =>
    refine ⟨_, h, .inr (.inl ⟨opA_make hop rfl, _, .cells cs t, fun b => .slice (some ⟨b, 0, none⟩) n c, rfl, @fun D a Hr hR => ?_⟩)⟩
    obtain ⟨tv, rfl, ht, hB, hn⟩ := hR
    obtain ⟨Cs, h1, h2⟩ := fine (D := D) (by simp [Res.cs]) ht hB
    refine ⟨_, fun b => .cells h1, fun q => .slice ?_, fun w hO => ?_⟩
    · rw [← hB.len]; simp [nums]
    · unfold atO atR Oper.wp
      rw [h2 w hO]
      exact ⟨_, rfl, rfl, rfl⟩
  | newM m =>
    refine ⟨_, h, .inr (.inl ⟨opA_make hop rfl, _, .map m, fun b => .map (some b), rfl, @fun D a Hr hR => ?_⟩)⟩
    obtain ⟨tv, rfl, ht, hB, hn⟩ := hR
    obtain ⟨es, clock, h1, h2⟩ := fine (D := D) (by simp [Res.cs]) ht hB
    refine ⟨_, fun b => .map h1, fun q => .mp ?_, fun w hO => ?_⟩
    · rw [← hB.len]; simp [nums]
    · unfold atO atR Oper.wp
      rw [h2 w hO]
      exact ⟨_, rfl, rfl, rfl⟩
  | setM l m =>
    simp only [resP] at h
    split at h
    · rename_i m0 hl
      cases hb : (st.m.wr l && !p) <;> simp only [hb, cond_true, cond_false] at h
      rw [Bool.and_eq_true] at hb
      refine ⟨_, h, .inr (.inr ⟨by simpa using hb.2, undefA, _, rfl, rfl, @fun D a Hr w hR hO => ?_⟩)⟩
      obtain ⟨tv, rfl, ht, hB, hn⟩ := hR
      obtain ⟨b, s, es, clock, es', clock', m1, g1, g2, g3, g5⟩ := fine (D := D) (by simp [Res.cs]) ht hB
      have r1 := g5 w hO
      have hlt := own_lt hO.1 hB.len g2
      have hN : nums (Hr.set l ⟨b, s, .map es' clock'⟩) = nums Hr := nums_set g2 rfl
      have hD := drop_all hN
      have hS : Stp st.m.wr Hr w (Hr.set l ⟨b, s, .map es' clock'⟩) (w.putObj b (.map es' clock')) := stp_write g2 hb.1 ⟨rfl, rfl, rfl, by simp [World.putObj], fun k _ hk => World.putObj_heap_other (by intro e; exact hk (by rw [e]))⟩ hD.1 (by rw [hD.2]; simp)
      refine atR_skip r1 ⟨Hr.set l ⟨b, s, .map es' clock'⟩, .raw, ?_, (apart_write (p' := ⟨b, s, .map es' clock'⟩) hn hl rfl rfl g2 rfl).1, ⟨own_write hO.1 hn hB.len hl rfl rfl g2 rfl (fun k _ hk => World.putObj_heap_other hk) (by simp [World.putObj]) (World.putObj_heap_same hlt), hS.rd hO.2⟩, hS⟩
      rw [hN]
      exact (hB.dropI _).set (.map g3)
    · exact h.elim
  | set l cs v =>
    cases v with
    | some v => exact h.elim
    | none =>
      simp only [resP] at h
      split at h
      · rename_i cs0 t hl
        cases hb : (st.m.wr l && !p) <;> simp only [hb, cond_true, cond_false] at h
        rw [Bool.and_eq_true] at hb
        refine ⟨_, h, .inr (.inr ⟨by simpa using hb.2, undefA, _, rfl, rfl, @fun D a Hr w hR hO => ?_⟩)⟩
        obtain ⟨tv, rfl, ht, hB, hn⟩ := hR
        obtain ⟨b, s, Cs, Cs', ty, cs1, g1, g2, g3, g4, _, g5⟩ := fine (D := D) (by simp [Res.cs]) ht hB
        rw [hl] at g1; cases g1
        obtain ⟨w', r1, r2, r3⟩ := g5 w hO
        have hN : nums (Hr.set l ⟨b, s, .cells Cs'.toArray t (0, 0)⟩) = nums Hr := nums_set g2 (by simp [RBlk.num, cntO, g4])
        have hD := drop_all hN
        have hS : Stp st.m.wr Hr w (Hr.set l ⟨b, s, .cells Cs'.toArray t (0, 0)⟩) w' := stp_write g2 hb.1 (same_grown r2) hD.1 (by rw [hD.2]; simp)
        refine atR_skip r1 ⟨Hr.set l ⟨b, s, .cells Cs'.toArray t (0, 0)⟩, .raw, ?_, (apart_write (p' := ⟨b, s, .cells Cs'.toArray t (0, 0)⟩) hn hl rfl rfl g2 rfl).1, ⟨own_write hO.1 hn hB.len hl rfl rfl g2 rfl (fun k _ hk => r2.block k hk) (by rw [r2.size]; exact Nat.le_refl _) r3, hS.rd hO.2⟩, hS⟩
        rw [hN]
        exact (hB.dropI _).set (.cells g3)
      · exact h.elim
  | setR l F cs =>
    simp only [resP] at h
    split at h
    · rename_i n s F0 t hl
      cases hb : (st.m.wr l && !p) <;> simp only [hb, cond_true, cond_false] at h
      rw [Bool.and_eq_true] at hb
      obtain ⟨hcs, hk⟩ := allT_spec h
      refine ⟨_, hk, .inr (.inr ⟨by simpa using hb.2, undefA, _, rfl, rfl, @fun D a Hr w hR hO => ?_⟩)⟩
      obtain ⟨tv, rfl, ht, hB, hn⟩ := hR
      obtain ⟨b, n', s', F1, cur, cur', t', g1, g2, g3, g4, g5⟩ := fine (D := D) hcs ht hB
      rw [hl] at g1; cases g1
      obtain ⟨w', r1, r2, r3⟩ := g5 w hO
      have hN : nums (Hr.set l ⟨b, s, .cells cur' t (0, 0)⟩) = nums Hr := nums_set g2 (by simp [RBlk.num, cntO, g3])
      have hD := drop_all hN
      have hS : Stp st.m.wr Hr w (Hr.set l ⟨b, s, .cells cur' t (0, 0)⟩) w' := stp_write g2 hb.1 (same_grown r2) hD.1 (by rw [hD.2]; simp)
      have hrow := hB.2 l _ _ hl g2
      cases hrow with | row q1 q2 q3 q4 q5 =>
      refine atR_skip r1 ⟨Hr.set l ⟨b, s, .cells cur' t (0, 0)⟩, .raw, ?_, (apart_write (p' := ⟨b, s, .cells cur' t (0, 0)⟩) hn hl rfl rfl g2 rfl).1, ⟨own_write hO.1 hn hB.len hl rfl rfl g2 rfl (fun k _ hk => r2.block k hk) (by rw [r2.size]; exact Nat.le_refl _) r3, hS.rd hO.2⟩, hS⟩
      rw [hN]
      exact (hB.dropI _).set (.row g4 (g3.trans q2) q3 q4 q5)
    · exact h.elim
  | newR n s F t cs =>
    simp only [resP] at h
    cases p <;> simp only [cond_true, cond_false] at h
    obtain ⟨hcs, hk⟩ := allT_spec h
    refine ⟨_, hk, .inr (.inr ⟨rfl, _, _, rfl, rfl, @fun D a Hr w hR hO => ?_⟩)⟩
    obtain ⟨tv, rfl, ht, hB, hn⟩ := hR
    obtain ⟨g0, g5⟩ := fine (D := D) hcs ht hB
    obtain ⟨cap, cur', w', r1, r2, r3⟩ := g5 w hO
    have hD := drop_one (nums_snoc Hr ⟨w.heap.size, s, .cells cur' t (0, 0)⟩)
    have hS : Stp st.m.wr Hr w (Hr ++ [⟨w.heap.size, s, .cells cur' t (0, 0)⟩]) w' := ⟨r3.os, r3.tape, r3.output, r3.size, ⟨_, hD.1, fun q hq => by rw [hD.2] at hq; rw [List.mem_singleton.1 hq]; exact .inl (Nat.le_refl _)⟩, fun k hk _ => r3.block k hk⟩
    refine atR_value r1 ⟨_, ?_, ?_, apart_new hn hO.1 hB.len (p := ⟨w.heap.size, s, .cells cur' t (0, 0)⟩) (Nat.le_refl _), ⟨own_new hO.1 hB.len r3 r2.blk, hS.rd hO.2⟩, hS⟩
    · refine rel_gsl0 (s := s) (z := cur'.size) ?_ r2.le r2.size r2.max
      rw [nums_snoc, ← hB.len]; simp [nums, RBlk.num, cntO]
    · rw [nums_snoc]
      exact (hB.grow _).snoc (.row r2.row r2.size r2.le r2.max g0)
  | app l n n' s F t cs =>
    simp only [resP] at h
    split at h
    · rename_i N s0 F0 t0 hl
      cases hb : (st.m.wr l && !p) <;> simp only [hb, cond_true, cond_false] at h
      rw [Bool.and_eq_true] at hb
      obtain ⟨hcs, hk⟩ := allT_spec h
      refine ⟨_, hk, .inr (.inr ⟨by simpa using hb.2, _, _, rfl, rfl, @fun D a Hr w hR hO => ?_⟩)⟩
      obtain ⟨tv, rfl, ht, hB, hn⟩ := hR
      obtain ⟨N', F1, b, cur, g1, g2, g3, g4, g0, g5⟩ := fine (D := D) hcs ht hB
      rw [hl] at g1; cases g1
      have hrow := hB.2 l _ _ hl g2
      cases hrow with | row q1 q2 q3 q4 q5 =>
      rename_i c
      obtain ⟨q, cap, cur', w', r1, r2, r3, r4⟩ := g5 w hO
      have hlt := own_lt hO.1 hB.len g2
      have hlH : l < st.m.H.length := (List.getElem?_eq_some_iff.1 hl).1
      have hlR : l < Hr.length := by rw [hB.len]; exact hlH
      rcases r4 with ⟨rfl, e2, e3⟩ | ⟨rfl, e2⟩
      · -- in place
        have hN : nums (Hr.set l ⟨q, s, .cells cur' t (0, 0)⟩) = nums Hr := nums_set g2 (by simp [RBlk.num, cntO, e2])
        have hN2 : nums (Hr.set l ⟨q, s, .cells cur' t (0, 0)⟩ ++ [⟨q, s, .cells cur' t (0, 0)⟩]) = nums Hr ++ [⟨q, s, cur'.size⟩] := by rw [nums_snoc, hN]; rfl
        have hD := drop_one hN2
        have hS : Stp st.m.wr Hr w (Hr.set l ⟨q, s, .cells cur' t (0, 0)⟩ ++ [⟨q, s, .cells cur' t (0, 0)⟩]) w' := stp_write g2 hb.1 r3 hD.1 (by rw [hD.2]; intro x hx; rw [List.mem_singleton.1 hx]; exact .inr rfl)
        obtain ⟨ap1, ap2⟩ := apart_write (it' := .row n s F0 t (some st.m.H.length)) (p' := ⟨q, s, .cells cur' t (0, 0)⟩) hn hl rfl rfl g2 rfl
        have ow := own_write (it' := .row n s F0 t (some st.m.H.length)) (p' := ⟨q, s, .cells cur' t (0, 0)⟩) hO.1 hn hB.len hl rfl rfl g2 rfl (fun k hk1 hk2 => r3.block k hk1 fun e => hk2 (Option.some.inj e)) r3.size r2.blk
        have hlen1 : (Hr.set l ⟨q, s, .cells cur' t (0, 0)⟩).length = ((dropR l st.m.H).set l (.row n s F0 t (some st.m.H.length))).length := by simp [dropR, dropI, hB.len]
        have hlen2 : ((dropR l st.m.H).set l (.row n s F0 t (some st.m.H.length))).length = st.m.H.length := by simp [dropR, dropI]
        refine atR_value r1 ⟨_, ?_, ?_, ?_, ⟨?_, hS.rd hO.2⟩, hS⟩
        · refine rel_gsl0 (s := s) (z := cur'.size) ?_ r2.le r2.size r2.max
          rw [hN2, ← hB.len]; simp [nums]
        · rw [hN2]
          refine RelB.snoc ?_ (.row r2.row r2.size r2.le r2.max g0)
          exact ((hB.grow _).dropI _).set (.row e3 (e2.trans q2) (Nat.le_trans g3 q3) q4 q5)
        · -- apart
          intro k m jt kt x y hne h1 h2 hj hk2 x1 x2 hxy
          have key : ∀ (k : Nat) jt x, (((dropR l st.m.H).set l (.row n s F0 t (some st.m.H.length))) ++ [AIt.row n' s F t none])[k]? = some jt → (Hr.set l ⟨q, s, .cells cur' t (0, 0)⟩ ++ [⟨q, s, .cells cur' t (0, 0)⟩])[k]? = some x → (k < st.m.H.length ∧ ((dropR l st.m.H).set l (.row n s F0 t (some st.m.H.length)))[k]? = some jt ∧ (Hr.set l ⟨q, s, .cells cur' t (0, 0)⟩)[k]? = some x) ∨ (k = st.m.H.length ∧ jt = .row n' s F t none ∧ x = ⟨q, s, .cells cur' t (0, 0)⟩) := fun k jt x h1 h2 => by
            rcases Nat.lt_trichotomy k st.m.H.length with h | h | h
            · rw [List.getElem?_append_left (by omega)] at h1
              rw [List.getElem?_append_left (by omega)] at h2
              exact .inl ⟨h, h1, h2⟩
            · subst h
              rw [List.getElem?_append_right (by omega), hlen2, Nat.sub_self] at h1
              rw [List.getElem?_append_right (by omega), hlen1, hlen2, Nat.sub_self] at h2
              cases h1; cases h2
              exact .inr ⟨rfl, rfl, rfl⟩
            · rw [List.getElem?_eq_none (by rw [List.length_append, hlen2]; simp only [List.length_cons, List.length_nil]; omega)] at h1
              cases h1
          have atl : ∀ (k : Nat) jt x, k < st.m.H.length → ((dropR l st.m.H).set l (.row n s F0 t (some st.m.H.length)))[k]? = some jt → (Hr.set l ⟨q, s, .cells cur' t (0, 0)⟩)[k]? = some x → jt.live = true → x.b = q → jt.owner k = st.m.H.length := fun k jt x hk h1 h2 hj hx => by
            by_cases e : k = l
            · subst e
              rw [List.getElem?_set_self (by simp [dropR, dropI]; omega)] at h1
              cases h1; rfl
            · exact absurd hx (ap2 k jt x e h1 hj h2)
          rcases key k jt x h1 x1 with ⟨a1, a2, a3⟩ | ⟨a1, a2, a3⟩ <;> rcases key m kt y h2 x2 with ⟨b1, b2, b3⟩ | ⟨b1, b2, b3⟩
          · exact ap1 k m jt kt x y hne a2 b2 hj hk2 a3 b3 hxy
          · subst b2; subst b3
            rw [atl k jt x a1 a2 a3 hj hxy, b1]; rfl
          · subst a2; subst a3
            rw [atl m kt y b1 b2 b3 hk2 hxy.symm, a1]; rfl
          · omega
        · -- own
          intro k jt x h1 x1
          rcases Nat.lt_trichotomy k st.m.H.length with h | h | h
          · rw [List.getElem?_append_left (by omega)] at h1
            rw [List.getElem?_append_left (by omega)] at x1
            exact ow k jt x h1 x1
          · subst h
            rw [List.getElem?_append_right (by omega), hlen1, hlen2, Nat.sub_self] at x1
            cases x1
            exact ⟨(Array.getElem?_eq_some_iff.1 r2.blk).1, fun _ => r2.blk⟩
          · rw [List.getElem?_eq_none (by rw [List.length_append, hlen2]; simp only [List.length_cons, List.length_nil]; omega)] at h1
            cases h1
      · -- a new block
        have hN2 : nums (Hr.set l ⟨b, s, .cells cur t (0, 0)⟩ ++ [⟨w.heap.size, s, .cells cur' t (0, 0)⟩]) = nums Hr ++ [⟨w.heap.size, s, cur'.size⟩] := by rw [nums_snoc, nums_set g2 rfl]; rfl
        have hD := drop_one hN2
        have hS : Stp st.m.wr Hr w (Hr.set l ⟨b, s, .cells cur t (0, 0)⟩ ++ [⟨w.heap.size, s, .cells cur' t (0, 0)⟩]) w' := stp_write g2 hb.1 r3 hD.1 (by rw [hD.2]; intro x hx; rw [List.mem_singleton.1 hx]; exact .inl (Nat.le_refl _))
        have hbw : w'.heap[b]? = some (.cells cur t (0, 0)) := e2.trans ((hO.1 l _ _ hl g2).2 rfl)
        have hall : ∀ k, k < w.heap.size → w'.heap[k]? = w.heap[k]? := fun k hk => by
          by_cases e : k = b
          · rw [e]; exact e2
          · exact r3.block k hk fun h => e (Option.some.inj h)
        have hbel : Below w.heap.size w w' := ⟨r3.os, r3.tape, r3.output, r3.size, hall⟩
        obtain ⟨ap1, ap2⟩ := apart_write (it' := .row n s F0 t (some st.m.H.length)) (p' := ⟨b, s, .cells cur t (0, 0)⟩) hn hl rfl rfl g2 rfl
        have ow := own_write (w' := w) (it' := .row n s F0 t (some st.m.H.length)) (p' := ⟨b, s, .cells cur t (0, 0)⟩) hO.1 hn hB.len hl rfl rfl g2 rfl (fun _ _ _ => rfl) (Nat.le_refl _) ((hO.1 l _ _ hl g2).2 rfl)
        have hlen1 : (Hr.set l ⟨b, s, .cells cur t (0, 0)⟩).length = ((dropR l st.m.H).set l (.row n s F0 t (some st.m.H.length))).length := by simp [dropR, dropI, hB.len]
        refine atR_value r1 ⟨_, ?_, ?_, apart_new ap1 ow hlen1 (p := ⟨w.heap.size, s, .cells cur' t (0, 0)⟩) (Nat.le_refl _), ⟨own_new ow hlen1 hbel r2.blk, hS.rd hO.2⟩, hS⟩
        · refine rel_gsl0 (s := s) (z := cur'.size) ?_ r2.le r2.size r2.max
          rw [hN2, ← hB.len]; simp [nums]
        · rw [hN2]
          refine RelB.snoc ?_ (.row r2.row r2.size r2.le r2.max g0)
          exact ((hB.grow _).dropI _).set (.row g4 q2 (Nat.le_trans g3 q3) q4 q5)
    · exact h.elim
end
end Go.Proofs.Ytjbleblllmbcbaa
