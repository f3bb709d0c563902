/- Rounds, as contracts. No condition. -/
import Derived.Test.YtjlijocnmicdpaaMiCa
import Derived.Test.YtjlijocnmicdpaaMiCb
import Derived.Test.YtjlijocnmicdpaaMiCc
import Derived.Test.YtjlijocnmicdpaaMiCd
set_option linter.unusedVariables false
set_option linter.unusedSimpArgs false
set_option maxRecDepth 100000
namespace Go.Proofs.Ytjlijocnmicdpaa
open Go.RowKit

theorem upd_round {r : Nat} (hr : r < 40) (v m : Nat → BitVec 64) : Upd1 Try.prog 24 56 (valsB v) [.agg (valsB m).toArray, .int .i64 (r : Int)] (.tuple #[]) (valsB (roundB v m (r % 10))) := by
  rcases (by omega : r = 0 ∨ r = 1 ∨ r = 2 ∨ r = 3 ∨ r = 4 ∨ r = 5 ∨ r = 6 ∨ r = 7 ∨ r = 8 ∨ r = 9 ∨ r = 10 ∨ r = 11 ∨ r = 12 ∨ r = 13 ∨ r = 14 ∨ r = 15 ∨ r = 16 ∨ r = 17 ∨ r = 18 ∨ r = 19 ∨ r = 20 ∨ r = 21 ∨ r = 22 ∨ r = 23 ∨ r = 24 ∨ r = 25 ∨ r = 26 ∨ r = 27 ∨ r = 28 ∨ r = 29 ∨ r = 30 ∨ r = 31 ∨ r = 32 ∨ r = 33 ∨ r = 34 ∨ r = 35 ∨ r = 36 ∨ r = 37 ∨ r = 38 ∨ r = 39) with rfl | rfl | rfl | rfl | rfl | rfl | rfl | rfl | rfl | rfl | rfl | rfl | rfl | rfl | rfl | rfl | rfl | rfl | rfl | rfl | rfl | rfl | rfl | rfl | rfl | rfl | rfl | rfl | rfl | rfl | rfl | rfl | rfl | rfl | rfl | rfl | rfl | rfl | rfl | rfl
  · exact upd_of_ev EC_ok rfl 60 (rnd_0 v m) rfl rfl rfl rfl
  · exact upd_of_ev EC_ok rfl 60 (rnd_1 v m) rfl rfl rfl rfl
  · exact upd_of_ev EC_ok rfl 60 (rnd_2 v m) rfl rfl rfl rfl
  · exact upd_of_ev EC_ok rfl 60 (rnd_3 v m) rfl rfl rfl rfl
  · exact upd_of_ev EC_ok rfl 60 (rnd_4 v m) rfl rfl rfl rfl
  · exact upd_of_ev EC_ok rfl 60 (rnd_5 v m) rfl rfl rfl rfl
  · exact upd_of_ev EC_ok rfl 60 (rnd_6 v m) rfl rfl rfl rfl
  · exact upd_of_ev EC_ok rfl 60 (rnd_7 v m) rfl rfl rfl rfl
  · exact upd_of_ev EC_ok rfl 60 (rnd_8 v m) rfl rfl rfl rfl
  · exact upd_of_ev EC_ok rfl 60 (rnd_9 v m) rfl rfl rfl rfl
  · exact upd_of_ev EC_ok rfl 60 (rnd_10 v m) rfl rfl rfl rfl
  · exact upd_of_ev EC_ok rfl 60 (rnd_11 v m) rfl rfl rfl rfl
  · exact upd_of_ev EC_ok rfl 60 (rnd_12 v m) rfl rfl rfl rfl
  · exact upd_of_ev EC_ok rfl 60 (rnd_13 v m) rfl rfl rfl rfl
  · exact upd_of_ev EC_ok rfl 60 (rnd_14 v m) rfl rfl rfl rfl
  · exact upd_of_ev EC_ok rfl 60 (rnd_15 v m) rfl rfl rfl rfl
  · exact upd_of_ev EC_ok rfl 60 (rnd_16 v m) rfl rfl rfl rfl
  · exact upd_of_ev EC_ok rfl 60 (rnd_17 v m) rfl rfl rfl rfl
  · exact upd_of_ev EC_ok rfl 60 (rnd_18 v m) rfl rfl rfl rfl
  · exact upd_of_ev EC_ok rfl 60 (rnd_19 v m) rfl rfl rfl rfl
  · exact upd_of_ev EC_ok rfl 60 (rnd_20 v m) rfl rfl rfl rfl
  · exact upd_of_ev EC_ok rfl 60 (rnd_21 v m) rfl rfl rfl rfl
  · exact upd_of_ev EC_ok rfl 60 (rnd_22 v m) rfl rfl rfl rfl
  · exact upd_of_ev EC_ok rfl 60 (rnd_23 v m) rfl rfl rfl rfl
  · exact upd_of_ev EC_ok rfl 60 (rnd_24 v m) rfl rfl rfl rfl
  · exact upd_of_ev EC_ok rfl 60 (rnd_25 v m) rfl rfl rfl rfl
  · exact upd_of_ev EC_ok rfl 60 (rnd_26 v m) rfl rfl rfl rfl
  · exact upd_of_ev EC_ok rfl 60 (rnd_27 v m) rfl rfl rfl rfl
  · exact upd_of_ev EC_ok rfl 60 (rnd_28 v m) rfl rfl rfl rfl
  · exact upd_of_ev EC_ok rfl 60 (rnd_29 v m) rfl rfl rfl rfl
  · exact upd_of_ev EC_ok rfl 60 (rnd_30 v m) rfl rfl rfl rfl
  · exact upd_of_ev EC_ok rfl 60 (rnd_31 v m) rfl rfl rfl rfl
  · exact upd_of_ev EC_ok rfl 60 (rnd_32 v m) rfl rfl rfl rfl
  · exact upd_of_ev EC_ok rfl 60 (rnd_33 v m) rfl rfl rfl rfl
  · exact upd_of_ev EC_ok rfl 60 (rnd_34 v m) rfl rfl rfl rfl
  · exact upd_of_ev EC_ok rfl 60 (rnd_35 v m) rfl rfl rfl rfl
  · exact upd_of_ev EC_ok rfl 60 (rnd_36 v m) rfl rfl rfl rfl
  · exact upd_of_ev EC_ok rfl 60 (rnd_37 v m) rfl rfl rfl rfl
  · exact upd_of_ev EC_ok rfl 60 (rnd_38 v m) rfl rfl rfl rfl
  · exact upd_of_ev EC_ok rfl 60 (rnd_39 v m) rfl rfl rfl rfl
theorem rround_any {r : Nat} (hr : r < 40) (v m : Nat → BitVec 64) (w : World) : Calls Try.prog 13 #[.agg (valsB v).toArray, .agg (valsB m).toArray, .int .i64 (r : Int)] w fun e w' => e = .returned (.agg (valsB (roundB v m (r % 10))).toArray) ∧ Below w.heap.size w w' := by
  have hv : ∀ u, RelL noRows [] (cB u) (valsB u) := fun u => RelL.of_vals rfl
  rcases (by omega : r = 0 ∨ r = 1 ∨ r = 2 ∨ r = 3 ∨ r = 4 ∨ r = 5 ∨ r = 6 ∨ r = 7 ∨ r = 8 ∨ r = 9 ∨ r = 10 ∨ r = 11 ∨ r = 12 ∨ r = 13 ∨ r = 14 ∨ r = 15 ∨ r = 16 ∨ r = 17 ∨ r = 18 ∨ r = 19 ∨ r = 20 ∨ r = 21 ∨ r = 22 ∨ r = 23 ∨ r = 24 ∨ r = 25 ∨ r = 26 ∨ r = 27 ∨ r = 28 ∨ r = 29 ∨ r = 30 ∨ r = 31 ∨ r = 32 ∨ r = 33 ∨ r = 34 ∨ r = 35 ∨ r = 36 ∨ r = 37 ∨ r = 38 ∨ r = 39) with rfl | rfl | rfl | rfl | rfl | rfl | rfl | rfl | rfl | rfl | rfl | rfl | rfl | rfl | rfl | rfl | rfl | rfl | rfl | rfl | rfl | rfl | rfl | rfl | rfl | rfl | rfl | rfl | rfl | rfl | rfl | rfl | rfl | rfl | rfl | rfl | rfl | rfl | rfl | rfl
  · exact ev_callsI EC_ok 60 (rrnd_0 v m) rfl (.cons (.agg (hv v)) (.cons (.agg (hv m)) (.cons .int .nil))) rfl w
  · exact ev_callsI EC_ok 60 (rrnd_1 v m) rfl (.cons (.agg (hv v)) (.cons (.agg (hv m)) (.cons .int .nil))) rfl w
  · exact ev_callsI EC_ok 60 (rrnd_2 v m) rfl (.cons (.agg (hv v)) (.cons (.agg (hv m)) (.cons .int .nil))) rfl w
  · exact ev_callsI EC_ok 60 (rrnd_3 v m) rfl (.cons (.agg (hv v)) (.cons (.agg (hv m)) (.cons .int .nil))) rfl w
  · exact ev_callsI EC_ok 60 (rrnd_4 v m) rfl (.cons (.agg (hv v)) (.cons (.agg (hv m)) (.cons .int .nil))) rfl w
  · exact ev_callsI EC_ok 60 (rrnd_5 v m) rfl (.cons (.agg (hv v)) (.cons (.agg (hv m)) (.cons .int .nil))) rfl w
  · exact ev_callsI EC_ok 60 (rrnd_6 v m) rfl (.cons (.agg (hv v)) (.cons (.agg (hv m)) (.cons .int .nil))) rfl w
  · exact ev_callsI EC_ok 60 (rrnd_7 v m) rfl (.cons (.agg (hv v)) (.cons (.agg (hv m)) (.cons .int .nil))) rfl w
  · exact ev_callsI EC_ok 60 (rrnd_8 v m) rfl (.cons (.agg (hv v)) (.cons (.agg (hv m)) (.cons .int .nil))) rfl w
  · exact ev_callsI EC_ok 60 (rrnd_9 v m) rfl (.cons (.agg (hv v)) (.cons (.agg (hv m)) (.cons .int .nil))) rfl w
  · exact ev_callsI EC_ok 60 (rrnd_10 v m) rfl (.cons (.agg (hv v)) (.cons (.agg (hv m)) (.cons .int .nil))) rfl w
  · exact ev_callsI EC_ok 60 (rrnd_11 v m) rfl (.cons (.agg (hv v)) (.cons (.agg (hv m)) (.cons .int .nil))) rfl w
  · exact ev_callsI EC_ok 60 (rrnd_12 v m) rfl (.cons (.agg (hv v)) (.cons (.agg (hv m)) (.cons .int .nil))) rfl w
  · exact ev_callsI EC_ok 60 (rrnd_13 v m) rfl (.cons (.agg (hv v)) (.cons (.agg (hv m)) (.cons .int .nil))) rfl w
  · exact ev_callsI EC_ok 60 (rrnd_14 v m) rfl (.cons (.agg (hv v)) (.cons (.agg (hv m)) (.cons .int .nil))) rfl w
  · exact ev_callsI EC_ok 60 (rrnd_15 v m) rfl (.cons (.agg (hv v)) (.cons (.agg (hv m)) (.cons .int .nil))) rfl w
  · exact ev_callsI EC_ok 60 (rrnd_16 v m) rfl (.cons (.agg (hv v)) (.cons (.agg (hv m)) (.cons .int .nil))) rfl w
  · exact ev_callsI EC_ok 60 (rrnd_17 v m) rfl (.cons (.agg (hv v)) (.cons (.agg (hv m)) (.cons .int .nil))) rfl w
  · exact ev_callsI EC_ok 60 (rrnd_18 v m) rfl (.cons (.agg (hv v)) (.cons (.agg (hv m)) (.cons .int .nil))) rfl w
  · exact ev_callsI EC_ok 60 (rrnd_19 v m) rfl (.cons (.agg (hv v)) (.cons (.agg (hv m)) (.cons .int .nil))) rfl w
  · exact ev_callsI EC_ok 60 (rrnd_20 v m) rfl (.cons (.agg (hv v)) (.cons (.agg (hv m)) (.cons .int .nil))) rfl w
  · exact ev_callsI EC_ok 60 (rrnd_21 v m) rfl (.cons (.agg (hv v)) (.cons (.agg (hv m)) (.cons .int .nil))) rfl w
  · exact ev_callsI EC_ok 60 (rrnd_22 v m) rfl (.cons (.agg (hv v)) (.cons (.agg (hv m)) (.cons .int .nil))) rfl w
  · exact ev_callsI EC_ok 60 (rrnd_23 v m) rfl (.cons (.agg (hv v)) (.cons (.agg (hv m)) (.cons .int .nil))) rfl w
  · exact ev_callsI EC_ok 60 (rrnd_24 v m) rfl (.cons (.agg (hv v)) (.cons (.agg (hv m)) (.cons .int .nil))) rfl w
  · exact ev_callsI EC_ok 60 (rrnd_25 v m) rfl (.cons (.agg (hv v)) (.cons (.agg (hv m)) (.cons .int .nil))) rfl w
  · exact ev_callsI EC_ok 60 (rrnd_26 v m) rfl (.cons (.agg (hv v)) (.cons (.agg (hv m)) (.cons .int .nil))) rfl w
  · exact ev_callsI EC_ok 60 (rrnd_27 v m) rfl (.cons (.agg (hv v)) (.cons (.agg (hv m)) (.cons .int .nil))) rfl w
  · exact ev_callsI EC_ok 60 (rrnd_28 v m) rfl (.cons (.agg (hv v)) (.cons (.agg (hv m)) (.cons .int .nil))) rfl w
  · exact ev_callsI EC_ok 60 (rrnd_29 v m) rfl (.cons (.agg (hv v)) (.cons (.agg (hv m)) (.cons .int .nil))) rfl w
  · exact ev_callsI EC_ok 60 (rrnd_30 v m) rfl (.cons (.agg (hv v)) (.cons (.agg (hv m)) (.cons .int .nil))) rfl w
  · exact ev_callsI EC_ok 60 (rrnd_31 v m) rfl (.cons (.agg (hv v)) (.cons (.agg (hv m)) (.cons .int .nil))) rfl w
  · exact ev_callsI EC_ok 60 (rrnd_32 v m) rfl (.cons (.agg (hv v)) (.cons (.agg (hv m)) (.cons .int .nil))) rfl w
  · exact ev_callsI EC_ok 60 (rrnd_33 v m) rfl (.cons (.agg (hv v)) (.cons (.agg (hv m)) (.cons .int .nil))) rfl w
  · exact ev_callsI EC_ok 60 (rrnd_34 v m) rfl (.cons (.agg (hv v)) (.cons (.agg (hv m)) (.cons .int .nil))) rfl w
  · exact ev_callsI EC_ok 60 (rrnd_35 v m) rfl (.cons (.agg (hv v)) (.cons (.agg (hv m)) (.cons .int .nil))) rfl w
  · exact ev_callsI EC_ok 60 (rrnd_36 v m) rfl (.cons (.agg (hv v)) (.cons (.agg (hv m)) (.cons .int .nil))) rfl w
  · exact ev_callsI EC_ok 60 (rrnd_37 v m) rfl (.cons (.agg (hv v)) (.cons (.agg (hv m)) (.cons .int .nil))) rfl w
  · exact ev_callsI EC_ok 60 (rrnd_38 v m) rfl (.cons (.agg (hv v)) (.cons (.agg (hv m)) (.cons .int .nil))) rfl w
  · exact ev_callsI EC_ok 60 (rrnd_39 v m) rfl (.cons (.agg (hv v)) (.cons (.agg (hv m)) (.cons .int .nil))) rfl w
/-- A round, as a contract. -/
def roundF : CtmF
  | [.ptr l 0, .agg ms, .int .i64 _ r], H, wr => match H[l]? with
    | some (.cells cs t) => bif six cs && six ms && Nat.beq t 56 && wr l then some (.tuple [], (dropR l H).set l (.cells (cB (roundB (vOf cs) (vOf ms) (r.toNat % 10))) 56), [decide (0 ≤ r ∧ r < 40)]) else none
    | _ => none
  | _, _, _ => none
theorem roundF_ok {R : Rws} : GoodM Try.prog R 24 roundF := by
  refine ⟨enters_of Try.func24 (by kernel_rfl) rfl, fun args H wr v H' cs hv hcs Hr w Args ha hB hA hO => ?_⟩
  unfold roundF at hv
  split at hv
  · rename_i H0 wr0 l ms lit r
    split at hv
    · rename_i cs0 t hl
      cases hb : (six cs0 && six ms && Nat.beq t 56 && wr l) <;> simp only [hb, cond_true, cond_false] at hv
      · cases hv
      · cases hv
        simp only [Bool.and_eq_true] at hb
        obtain ⟨⟨⟨h6, hm6⟩, ht⟩, hw⟩ := hb
        obtain rfl := Nat.eq_of_beq_eq_true ht
        have hr := of_decide_eq_true (hcs _ (List.mem_cons_self ..))
        obtain ⟨q, rfl⟩ := Int.eq_ofNat_of_zero_le hr.1
        cases ha with | cons a0 ha => cases ha with | cons a1 ha => cases ha with | cons a2 ha =>
        cases ha
        cases a2
        cases a1 with | agg a1 =>
        have e := a1.vals (six_vals hm6)
        subst e
        refine ctm_of_upd (t := 56) (c' := cB (roundB (vOf cs0) (vOf ms) (((q : Nat) : Int).toNat % 10))) (C' := valsB (roundB (vOf cs0) (vOf ms) (((q : Nat) : Int).toNat % 10))) (args := [.raw (.agg (valsB (vOf ms)).toArray), .int .i64 false (q : Int)]) (Args0 := [.agg (valsB (vOf ms)).toArray, .int .i64 (q : Int)]) hl hw (six_vals h6) (vals_cB _) rfl rfl rfl (upd_round (by omega) (vOf cs0) (vOf ms)) (.cons a0 (.cons .raw (.cons .int .nil))) hB hA hO
    · cases hv
  · cases hv
def ctrRound : CtrF
  | [.agg cs, .agg ms, .int .i64 _ r], _ => bif six cs && six ms then some (.agg (cB (roundB (vOf cs) (vOf ms) (r.toNat % 10))), [decide (0 ≤ r ∧ r < 40)]) else none
  | _, _ => none
theorem ctrRound_ok {R : Rws} : Good Try.prog R 13 ctrRound := by
  refine ⟨enters_of Try.func13 (by kernel_rfl) rfl, fun args H v cs hv hcs => ?_⟩
  unfold ctrRound at hv
  split at hv
  · rename_i H0 cs0 ms lit r
    cases hb : (six cs0 && six ms) <;> simp only [hb, cond_true, cond_false] at hv
    · cases hv
    · cases hv
      simp only [Bool.and_eq_true] at hb
      have hr := of_decide_eq_true (hcs _ (List.mem_cons_self ..))
      obtain ⟨q, rfl⟩ := Int.eq_ofNat_of_zero_le hr.1
      refine ⟨_, rfl, fun Hr Args ha _ _ w _ => ?_⟩
      cases ha with | cons a0 ha => cases ha with | cons a1 ha => cases ha with | cons a2 ha =>
      cases ha
      cases a2
      cases a0 with | agg a0 =>
      cases a1 with | agg a1 =>
      have e0 := a0.vals (six_vals hb.1)
      have e1 := a1.vals (six_vals hb.2)
      subst e0; subst e1
      exact rround_any (by omega) (vOf cs0) (vOf ms) w
  · cases hv
end Go.Proofs.Ytjlijocnmicdpaa
