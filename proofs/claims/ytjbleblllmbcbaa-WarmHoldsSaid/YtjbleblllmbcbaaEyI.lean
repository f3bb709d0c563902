/- The evaluator in the rounds of a range over a function. No program of its own. No condition. -/
import Derived.Test.YtjbleblllmbcbaaEyK
import Derived.Test.YtjbleblllmbcbaaRngB
set_option linter.unusedVariables false
set_option linter.unusedSimpArgs false
namespace Go.Proofs.Ytjbleblllmbcbaa
open Go.RowKit
variable {D : List Deferred} {R : Rws}
def inB : Code → Bool
  | .skip | .exit _ | .goto _ | .label _ | .ret => true
  | .region _ ops _ => noDefer ops.toList
  | .seq a b => inB a && inB b
  | .cond _ a b => inB a && inB b
  | .block _ c => inB c
  | _ => false
theorem rch_out {e : AExit} {st' : ASt} {wr : Nat → Bool} {Hr : List RBlk} {w : World} : ¬ LetsOut (Rch R D e st' wr Hr w) := by
  rintro ⟨a, w, h, _⟩
  cases e <;> simp [AExit.real] at h
theorem ev_in {E : Env} (hE : EnvOK E) (lr : Nat) : ∀ n c st K, inB c = true → evT E n (.code c) st K → ∃ e st', K e st' ∧ st'.m.wr = st.m.wr ∧ ∀ {D : List Deferred} a Hr w, RelSt E.rows D st a Hr → OwnK E.rows st.m.H Hr w → c.wpIn (Fence.wide.inRound lr) 0 E.P (Rch E.rows D e st' st.m.wr Hr w) a w
  | 0, c, st, K, _, h => h.elim
  | n + 1, c, st, K, hi, h => by
    have ih := ev_in hE lr n
    have hC := call_ok hE (ev_sound hE n)
    cases c with
    | skip => exact ⟨.normal, st, h, rfl, fun a Hr w hR hO => wpIn_skip ⟨rfl, Hr, hR, hO, .refl _ _ _⟩⟩
    | exit id => exact ⟨.exit id, st, h, rfl, fun a Hr w hR hO => wpIn_exit ⟨rfl, Hr, hR, hO, .refl _ _ _⟩⟩
    | goto l => exact ⟨.goto l, st, h, rfl, fun a Hr w hR hO => wpIn_goto ⟨rfl, Hr, hR, hO, .refl _ _ _⟩⟩
    | label l => exact ⟨.normal, st, h, rfl, fun a Hr w hR hO => wpIn_label ⟨rfl, Hr, hR, hO, .refl _ _ _⟩⟩
    | ret => exact ⟨.ret, st, h, rfl, fun a Hr w hR hO => wpIn_ret ⟨rfl, Hr, hR, hO, .refl _ _ _⟩⟩
    | region id ops d =>
      have hd : noDefer ops.toList = true := hi
      cases d with
      | false =>
        simp only [evT] at h
        obtain ⟨st', hk, hlo, hs⟩ := list_sound hE hC _ _ _ _ h
        refine ⟨.normal, st', hk, hlo, fun a Hr w hR hO => ?_⟩
        have h2 := hs a Hr w hR hO (Rch _ _ .normal st' st.m.wr Hr w) fun a' Hr' w' hR' hO' hS => ⟨rfl, Hr', hR', hO', hS⟩
        have := regIn (id := id) (l := lr) hd rch_out h2
        rwa [Array.toArray_toList] at this
      | true =>
        simp only [evT] at h
        obtain ⟨st', hk, hlo, hs⟩ := drawn_in hE hC lr (id := id) hd h
        refine ⟨.normal, st', hk, hlo, fun a Hr w hR hO => ?_⟩
        have := hs a Hr w hR hO (Rch _ _ .normal st' st.m.wr Hr w) rch_out fun a' Hr' w' hR' hO' hS => ⟨rfl, Hr', hR', hO', hS⟩
        rwa [Array.toArray_toList] at this
    | seq x y =>
      have hi2 : (inB x && inB y) = true := hi
      rw [Bool.and_eq_true] at hi2
      simp only [evT] at h
      obtain ⟨e1, st1, h1, hlo1, h2⟩ := ih _ _ _ hi2.1 h
      cases e1 <;> simp only at h1
      case normal =>
        obtain ⟨e, st', hk, hlo, hs⟩ := ih _ _ _ hi2.2 h1
        refine ⟨e, st', hk, hlo.trans hlo1, fun a Hr w hR hO => wpIn_seq (wpIn_mono (h2 a Hr w hR hO) ?_)⟩
        rintro e' a1 w1 ⟨rfl, Hr1, hR1, hO1, hS1⟩
        refine wpIn_mono (hs a1 Hr1 w1 hR1 hO1) fun e2 a2 w2 hq => ?_
        rw [hlo1] at hq
        exact hq.over hS1
      all_goals
        refine ⟨_, st1, h1, hlo1, fun a Hr w hR hO => wpIn_seq (wpIn_mono (h2 a Hr w hR hO) ?_)⟩
        rintro e' a1 w1 ⟨rfl, hq⟩
        exact ⟨rfl, hq⟩
    | cond c x y =>
      have hi2 : (inB x && inB y) = true := hi
      rw [Bool.and_eq_true] at hi2
      simp only [evT] at h
      split at h
      · rename_i z hc
        cases z <;> simp only [cond_true, cond_false] at h
        · obtain ⟨e, st', hk, hlo, hs⟩ := ih _ _ _ hi2.2 h
          exact ⟨e, st', hk, hlo, fun a Hr w hR hO => wpIn_cond (cond_bool hR hc) (hs a Hr w hR hO)⟩
        · obtain ⟨e, st', hk, hlo, hs⟩ := ih _ _ _ hi2.1 h
          exact ⟨e, st', hk, hlo, fun a Hr w hR hO => wpIn_cond (cond_bool hR hc) (hs a Hr w hR hO)⟩
      · rename_i z hc
        split at h
        · rename_i d ds hds
          obtain ⟨rfl, h⟩ := h
          cases z <;> simp only [cond_true, cond_false] at h
          · obtain ⟨e, st', hk, hlo, hs⟩ := ih _ _ _ hi2.2 h
            exact ⟨e, st', hk, hlo, fun a Hr w hR hO => wpIn_cond (cond_bool hR hc) (hs a Hr w (refine_sound hR hc) hO)⟩
          · obtain ⟨e, st', hk, hlo, hs⟩ := ih _ _ _ hi2.1 h
            exact ⟨e, st', hk, hlo, fun a Hr w hR hO => wpIn_cond (cond_bool hR hc) (hs a Hr w (refine_sound hR hc) hO)⟩
        · exact h.elim
      · exact h.elim
    | block id c =>
      simp only [evT] at h
      obtain ⟨e1, st1, h1, hlo1, h2⟩ := ih c _ _ hi h
      cases e1 <;> simp only at h1
      case exit j =>
        cases hj : Nat.beq j id <;> simp only [hj, cond_true, cond_false] at h1
        · refine ⟨.exit j, st1, h1, hlo1, fun a Hr w hR hO => wpIn_block (wpIn_mono (h2 a Hr w hR hO) ?_)⟩
          rintro e' a1 w1 ⟨rfl, hq⟩
          have : j ≠ id := Nat.ne_of_beq_eq_false hj
          simp only [AExit.real, Exit.inBlock, if_neg this]
          exact ⟨rfl, hq⟩
        · refine ⟨.normal, st1, h1, hlo1, fun a Hr w hR hO => wpIn_block (wpIn_mono (h2 a Hr w hR hO) ?_)⟩
          rintro e' a1 w1 ⟨rfl, hq⟩
          have := Nat.eq_of_beq_eq_true hj
          simp only [AExit.real, Exit.inBlock, if_pos this]
          exact ⟨rfl, hq⟩
      all_goals
        refine ⟨_, st1, h1, hlo1, fun a Hr w hR hO => wpIn_block (wpIn_mono (h2 a Hr w hR hO) ?_)⟩
        rintro e' a1 w1 ⟨rfl, hq⟩
        exact ⟨rfl, hq⟩
    | _ => cases hi
end Go.Proofs.Ytjbleblllmbcbaa
