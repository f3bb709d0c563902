/- Merged texts: MiD MiQ MiS. No condition. -/
import Derived.Test.YtjlijocnmicdpaaMiCa
import Derived.Test.YtjlijocnmicdpaaMiCb
import Derived.Test.YtjlijocnmicdpaaMiCc
import Derived.Test.YtjlijocnmicdpaaMiCd
import Derived.Test.YtjlijocnmicdpaaMiO
import Derived.Test.YtjlijocnmicdpaaMiP
set_option linter.unusedVariables false
set_option linter.unusedSimpArgs false
set_option maxRecDepth 100000
namespace Go.Proofs.Ytjlijocnmicdpaa
open Go.RowKit

section
theorem upd_round {r : Nat} (hr : r < 40) (v m : Nat → BitVec 64) : Upd1 Try.prog 24 56 (valsB v) [.agg (valsB m).toArray, .int .i64 (r : Int)] (.tuple #[]) (valsB (roundB v m (r % 10))) := by
  rcases (by omega : r = 0 ∨ r = 1 ∨ r = 2 ∨ r = 3 ∨ r = 4 ∨ r = 5 ∨ r = 6 ∨ r = 7 ∨ r = 8 ∨ r = 9 ∨ r = 10 ∨ r = 11 ∨ r = 12 ∨ r = 13 ∨ r = 14 ∨ r = 15 ∨ r = 16 ∨ r = 17 ∨ r = 18 ∨ r = 19 ∨ r = 20 ∨ r = 21 ∨ r = 22 ∨ r = 23 ∨ r = 24 ∨ r = 25 ∨ r = 26 ∨ r = 27 ∨ r = 28 ∨ r = 29 ∨ r = 30 ∨ r = 31 ∨ r = 32 ∨ r = 33 ∨ r = 34 ∨ r = 35 ∨ r = 36 ∨ r = 37 ∨ r = 38 ∨ r = 39) with rfl | rfl | rfl | rfl | rfl | rfl | rfl | rfl | rfl | rfl | rfl | rfl | rfl | rfl | rfl | rfl | rfl | rfl | rfl | rfl | rfl | rfl | rfl | rfl | rfl | rfl | rfl | rfl | rfl | rfl | rfl | rfl | rfl | rfl | rfl | rfl | rfl | rfl | rfl | rfl
  · exact upd_of_ev EC_ok rfl 60 (rnd_0 v m) rfl rfl rfl rfl
  · exact upd_of_ev EC_ok rfl 60 (rnd_1 v m) rfl rfl rfl rfl
  · exact upd_of_ev EC_ok rfl 60 (rnd_2 v m) rfl rfl rfl rfl
  · exact upd_of_ev EC_ok rfl 60 (rnd_3 v m) rfl rfl rfl rfl
  · exact upd_of_ev EC_ok rfl 60 (rnd_4 v m) rfl rfl rfl rfl
  · exact upd_of_ev EC_ok rfl 60 (rnd_5 v m) rfl rfl rfl rfl
  · exact upd_of_ev EC_ok rfl 60 (rnd_6 v m) rfl rfl rfl rfl
  · exact upd_of_ev EC_ok rfl 60 (rnd_7 v m) rfl rfl rfl rfl
  · exact upd_of_ev EC_ok rfl 60 (rnd_8 v m) rfl rfl rfl rfl
  · exact upd_of_ev EC_ok rfl 60 (rnd_9 v m) rfl rfl rfl rfl
  · exact upd_of_ev EC_ok rfl 60 (rnd_10 v m) rfl rfl rfl rfl
  · exact upd_of_ev EC_ok rfl 60 (rnd_11 v m) rfl rfl rfl rfl
  · exact upd_of_ev EC_ok rfl 60 (rnd_12 v m) rfl rfl rfl rfl
  · exact upd_of_ev EC_ok rfl 60 (rnd_13 v m) rfl rfl rfl rfl
  · exact upd_of_ev EC_ok rfl 60 (rnd_14 v m) rfl rfl rfl rfl
  · exact upd_of_ev EC_ok rfl 60 (rnd_15 v m) rfl rfl rfl rfl
  · exact upd_of_ev EC_ok rfl 60 (rnd_16 v m) rfl rfl rfl rfl
  · exact upd_of_ev EC_ok rfl 60 (rnd_17 v m) rfl rfl rfl rfl
  · exact upd_of_ev EC_ok rfl 60 (rnd_18 v m) rfl rfl rfl rfl
  · exact upd_of_ev EC_ok rfl 60 (rnd_19 v m) rfl rfl rfl rfl
  · exact upd_of_ev EC_ok rfl 60 (rnd_20 v m) rfl rfl rfl rfl
  · exact upd_of_ev EC_ok rfl 60 (rnd_21 v m) rfl rfl rfl rfl
  · exact upd_of_ev EC_ok rfl 60 (rnd_22 v m) rfl rfl rfl rfl
  · exact upd_of_ev EC_ok rfl 60 (rnd_23 v m) rfl rfl rfl rfl
  · exact upd_of_ev EC_ok rfl 60 (rnd_24 v m) rfl rfl rfl rfl
  · exact upd_of_ev EC_ok rfl 60 (rnd_25 v m) rfl rfl rfl rfl
  · exact upd_of_ev EC_ok rfl 60 (rnd_26 v m) rfl rfl rfl rfl
  · exact upd_of_ev EC_ok rfl 60 (rnd_27 v m) rfl rfl rfl rfl
  · exact upd_of_ev EC_ok rfl 60 (rnd_28 v m) rfl rfl rfl rfl
  · exact upd_of_ev EC_ok rfl 60 (rnd_29 v m) rfl rfl rfl rfl
  · exact upd_of_ev EC_ok rfl 60 (rnd_30 v m) rfl rfl rfl rfl
  · exact upd_of_ev EC_ok rfl 60 (rnd_31 v m) rfl rfl rfl rfl
  · exact upd_of_ev EC_ok rfl 60 (rnd_32 v m) rfl rfl rfl rfl
  · exact upd_of_ev EC_ok rfl 60 (rnd_33 v m) rfl rfl rfl rfl
  · exact upd_of_ev EC_ok rfl 60 (rnd_34 v m) rfl rfl rfl rfl
  · exact upd_of_ev EC_ok rfl 60 (rnd_35 v m) rfl rfl rfl rfl
  · exact upd_of_ev EC_ok rfl 60 (rnd_36 v m) rfl rfl rfl rfl
  · exact upd_of_ev EC_ok rfl 60 (rnd_37 v m) rfl rfl rfl rfl
  · exact upd_of_ev EC_ok rfl 60 (rnd_38 v m) rfl rfl rfl rfl
  · exact upd_of_ev EC_ok rfl 60 (rnd_39 v m) rfl rfl rfl rfl
theorem rround_any {r : Nat} (hr : r < 40) (v m : Nat → BitVec 64) (w : World) : Calls Try.prog 13 #[.agg (valsB v).toArray, .agg (valsB m).toArray, .int .i64 (r : Int)] w fun e w' => e = .returned (.agg (valsB (roundB v m (r % 10))).toArray) ∧ Below w.heap.size w w' := by
  have hv : ∀ u, RelL noRows [] (cB u) (valsB u) := fun u => RelL.of_vals rfl
  rcases (by omega : r = 0 ∨ r = 1 ∨ r = 2 ∨ r = 3 ∨ r = 4 ∨ r = 5 ∨ r = 6 ∨ r = 7 ∨ r = 8 ∨ r = 9 ∨ r = 10 ∨ r = 11 ∨ r = 12 ∨ r = 13 ∨ r = 14 ∨ r = 15 ∨ r = 16 ∨ r = 17 ∨ r = 18 ∨ r = 19 ∨ r = 20 ∨ r = 21 ∨ r = 22 ∨ r = 23 ∨ r = 24 ∨ r = 25 ∨ r = 26 ∨ r = 27 ∨ r = 28 ∨ r = 29 ∨ r = 30 ∨ r = 31 ∨ r = 32 ∨ r = 33 ∨ r = 34 ∨ r = 35 ∨ r = 36 ∨ r = 37 ∨ r = 38 ∨ r = 39) with rfl | rfl | rfl | rfl | rfl | rfl | rfl | rfl | rfl | rfl | rfl | rfl | rfl | rfl | rfl | rfl | rfl | rfl | rfl | rfl | rfl | rfl | rfl | rfl | rfl | rfl | rfl | rfl | rfl | rfl | rfl | rfl | rfl | rfl | rfl | rfl | rfl | rfl | rfl | rfl
  · exact ev_callsI EC_ok 60 (rrnd_0 v m) rfl (.cons (.agg (hv v)) (.cons (.agg (hv m)) (.cons .int .nil))) rfl w
  · exact ev_callsI EC_ok 60 (rrnd_1 v m) rfl (.cons (.agg (hv v)) (.cons (.agg (hv m)) (.cons .int .nil))) rfl w
  · exact ev_callsI EC_ok 60 (rrnd_2 v m) rfl (.cons (.agg (hv v)) (.cons (.agg (hv m)) (.cons .int .nil))) rfl w
  · exact ev_callsI EC_ok 60 (rrnd_3 v m) rfl (.cons (.agg (hv v)) (.cons (.agg (hv m)) (.cons .int .nil))) rfl w
  · exact ev_callsI EC_ok 60 (rrnd_4 v m) rfl (.cons (.agg (hv v)) (.cons (.agg (hv m)) (.cons .int .nil))) rfl w
  · exact ev_callsI EC_ok 60 (rrnd_5 v m) rfl (.cons (.agg (hv v)) (.cons (.agg (hv m)) (.cons .int .nil))) rfl w
  · exact ev_callsI EC_ok 60 (rrnd_6 v m) rfl (.cons (.agg (hv v)) (.cons (.agg (hv m)) (.cons .int .nil))) rfl w
  · exact ev_callsI EC_ok 60 (rrnd_7 v m) rfl (.cons (.agg (hv v)) (.cons (.agg (hv m)) (.cons .int .nil))) rfl w
  · exact ev_callsI EC_ok 60 (rrnd_8 v m) rfl (.cons (.agg (hv v)) (.cons (.agg (hv m)) (.cons .int .nil))) rfl w
  · exact ev_callsI EC_ok 60 (rrnd_9 v m) rfl (.cons (.agg (hv v)) (.cons (.agg (hv m)) (.cons .int .nil))) rfl w
  · exact ev_callsI EC_ok 60 (rrnd_10 v m) rfl (.cons (.agg (hv v)) (.cons (.agg (hv m)) (.cons .int .nil))) rfl w
  · exact ev_callsI EC_ok 60 (rrnd_11 v m) rfl (.cons (.agg (hv v)) (.cons (.agg (hv m)) (.cons .int .nil))) rfl w
  · exact ev_callsI EC_ok 60 (rrnd_12 v m) rfl (.cons (.agg (hv v)) (.cons (.agg (hv m)) (.cons .int .nil))) rfl w
  · exact ev_callsI EC_ok 60 (rrnd_13 v m) rfl (.cons (.agg (hv v)) (.cons (.agg (hv m)) (.cons .int .nil))) rfl w
  · exact ev_callsI EC_ok 60 (rrnd_14 v m) rfl (.cons (.agg (hv v)) (.cons (.agg (hv m)) (.cons .int .nil))) rfl w
  · exact ev_callsI EC_ok 60 (rrnd_15 v m) rfl (.cons (.agg (hv v)) (.cons (.agg (hv m)) (.cons .int .nil))) rfl w
  · exact ev_callsI EC_ok 60 (rrnd_16 v m) rfl (.cons (.agg (hv v)) (.cons (.agg (hv m)) (.cons .int .nil))) rfl w
  · exact ev_callsI EC_ok 60 (rrnd_17 v m) rfl (.cons (.agg (hv v)) (.cons (.agg (hv m)) (.cons .int .nil))) rfl w
  · exact ev_callsI EC_ok 60 (rrnd_18 v m) rfl (.cons (.agg (hv v)) (.cons (.agg (hv m)) (.cons .int .nil))) rfl w
  · exact ev_callsI EC_ok 60 (rrnd_19 v m) rfl (.cons (.agg (hv v)) (.cons (.agg (hv m)) (.cons .int .nil))) rfl w
  · exact ev_callsI EC_ok 60 (rrnd_20 v m) rfl (.cons (.agg (hv v)) (.cons (.agg (hv m)) (.cons .int .nil))) rfl w
  · exact ev_callsI EC_ok 60 (rrnd_21 v m) rfl (.cons (.agg (hv v)) (.cons (.agg (hv m)) (.cons .int .nil))) rfl w
  · exact ev_callsI EC_ok 60 (rrnd_22 v m) rfl (.cons (.agg (hv v)) (.cons (.agg (hv m)) (.cons .int .nil))) rfl w
  · exact ev_callsI EC_ok 60 (rrnd_23 v m) rfl (.cons (.agg (hv v)) (.cons (.agg (hv m)) (.cons .int .nil))) rfl w
  · exact ev_callsI EC_ok 60 (rrnd_24 v m) rfl (.cons (.agg (hv v)) (.cons (.agg (hv m)) (.cons .int .nil))) rfl w
  · exact ev_callsI EC_ok 60 (rrnd_25 v m) rfl (.cons (.agg (hv v)) (.cons (.agg (hv m)) (.cons .int .nil))) rfl w
  · exact ev_callsI EC_ok 60 (rrnd_26 v m) rfl (.cons (.agg (hv v)) (.cons (.agg (hv m)) (.cons .int .nil))) rfl w
  · exact ev_callsI EC_ok 60 (rrnd_27 v m) rfl (.cons (.agg (hv v)) (.cons (.agg (hv m)) (.cons .int .nil))) rfl w
  · exact ev_callsI EC_ok 60 (rrnd_28 v m) rfl (.cons (.agg (hv v)) (.cons (.agg (hv m)) (.cons .int .nil))) rfl w
  · exact ev_callsI EC_ok 60 (rrnd_29 v m) rfl (.cons (.agg (hv v)) (.cons (.agg (hv m)) (.cons .int .nil))) rfl w
  · exact ev_callsI EC_ok 60 (rrnd_30 v m) rfl (.cons (.agg (hv v)) (.cons (.agg (hv m)) (.cons .int .nil))) rfl w
  · exact ev_callsI EC_ok 60 (rrnd_31 v m) rfl (.cons (.agg (hv v)) (.cons (.agg (hv m)) (.cons .int .nil))) rfl w
  · exact ev_callsI EC_ok 60 (rrnd_32 v m) rfl (.cons (.agg (hv v)) (.cons (.agg (hv m)) (.cons .int .nil))) rfl w
  · exact ev_callsI EC_ok 60 (rrnd_33 v m) rfl (.cons (.agg (hv v)) (.cons (.agg (hv m)) (.cons .int .nil))) rfl w
  · exact ev_callsI EC_ok 60 (rrnd_34 v m) rfl (.cons (.agg (hv v)) (.cons (.agg (hv m)) (.cons .int .nil))) rfl w
  · exact ev_callsI EC_ok 60 (rrnd_35 v m) rfl (.cons (.agg (hv v)) (.cons (.agg (hv m)) (.cons .int .nil))) rfl w
  · exact ev_callsI EC_ok 60 (rrnd_36 v m) rfl (.cons (.agg (hv v)) (.cons (.agg (hv m)) (.cons .int .nil))) rfl w
  · exact ev_callsI EC_ok 60 (rrnd_37 v m) rfl (.cons (.agg (hv v)) (.cons (.agg (hv m)) (.cons .int .nil))) rfl w
  · exact ev_callsI EC_ok 60 (rrnd_38 v m) rfl (.cons (.agg (hv v)) (.cons (.agg (hv m)) (.cons .int .nil))) rfl w
  · exact ev_callsI EC_ok 60 (rrnd_39 v m) rfl (.cons (.agg (hv v)) (.cons (.agg (hv m)) (.cons .int .nil))) rfl w
/-- A round, as a contract. -/
def roundF : CtmF
  | [.ptr l 0, .agg ms, .int .i64 _ r], H, wr => match H[l]? with
    | some (.cells cs t) => bif six cs && six ms && Nat.beq t 56 && wr l then some (.tuple [], (dropR l H).set l (.cells (cB (roundB (vOf cs) (vOf ms) (r.toNat % 10))) 56), [decide (0 ≤ r ∧ r < 40)]) else none
    | _ => none
  | _, _, _ => none
theorem roundF_ok {R : Rws} : GoodM Try.prog R 24 roundF := by
  refine ⟨enters_of Try.func24 (by kernel_rfl) rfl, fun args H wr v H' cs hv hcs Hr w Args ha hB hA hO => ?_⟩
  unfold roundF at hv
  split at hv
  · rename_i H0 wr0 l ms lit r
    split at hv
    · rename_i cs0 t hl
      cases hb : (six cs0 && six ms && Nat.beq t 56 && wr l) <;> simp only [hb, cond_true, cond_false] at hv
      · cases hv
      · cases hv
        simp only [Bool.and_eq_true] at hb
        obtain ⟨⟨⟨h6, hm6⟩, ht⟩, hw⟩ := hb
        obtain rfl := Nat.eq_of_beq_eq_true ht
        have hr := of_decide_eq_true (hcs _ (List.mem_cons_self ..))
        obtain ⟨q, rfl⟩ := Int.eq_ofNat_of_zero_le hr.1
        cases ha with | cons a0 ha => cases ha with | cons a1 ha => cases ha with | cons a2 ha =>
        cases ha
        cases a2
        cases a1 with | agg a1 =>
        have e := a1.vals (six_vals hm6)
        subst e
        refine ctm_of_upd (t := 56) (c' := cB (roundB (vOf cs0) (vOf ms) (((q : Nat) : Int).toNat % 10))) (C' := valsB (roundB (vOf cs0) (vOf ms) (((q : Nat) : Int).toNat % 10))) (args := [.raw (.agg (valsB (vOf ms)).toArray), .int .i64 false (q : Int)]) (Args0 := [.agg (valsB (vOf ms)).toArray, .int .i64 (q : Int)]) hl hw (six_vals h6) (vals_cB _) rfl rfl rfl (upd_round (by omega) (vOf cs0) (vOf ms)) (.cons a0 (.cons .raw (.cons .int .nil))) hB hA hO
    · cases hv
  · cases hv
def ctrRound : CtrF
  | [.agg cs, .agg ms, .int .i64 _ r], _ => bif six cs && six ms then some (.agg (cB (roundB (vOf cs) (vOf ms) (r.toNat % 10))), [decide (0 ≤ r ∧ r < 40)]) else none
  | _, _ => none
theorem ctrRound_ok {R : Rws} : Good Try.prog R 13 ctrRound := by
  refine ⟨enters_of Try.func13 (by kernel_rfl) rfl, fun args H v cs hv hcs => ?_⟩
  unfold ctrRound at hv
  split at hv
  · rename_i H0 cs0 ms lit r
    cases hb : (six cs0 && six ms) <;> simp only [hb, cond_true, cond_false] at hv
    · cases hv
    · cases hv
      simp only [Bool.and_eq_true] at hb
      have hr := of_decide_eq_true (hcs _ (List.mem_cons_self ..))
      obtain ⟨q, rfl⟩ := Int.eq_ofNat_of_zero_le hr.1
      refine ⟨_, rfl, fun Hr Args ha _ _ w _ => ?_⟩
      cases ha with | cons a0 ha => cases ha with | cons a1 ha => cases ha with | cons a2 ha =>
      cases ha
      cases a2
      cases a0 with | agg a0 =>
      cases a1 with | agg a1 =>
      have e0 := a0.vals (six_vals hb.1)
      have e1 := a1.vals (six_vals hb.2)
      subst e0; subst e1
      exact rround_any (by omega) (vOf cs0) (vOf ms) w
  · cases hv
end

section
def ctrRefRoot : CtrF
  | [x, .int .i64 true n, .int .i64 true m], _ => match asB64 x with
    | some x => bif decide (n = 2 ∧ m = 64) then some (.bv .u64 (rfN (tpN x 128) 69).1, []) else none
    | none => none
  | _, _ => none
theorem ctrRefRoot_ok {R : Rws} : Good Try.prog R 27 ctrRefRoot := by
  refine ⟨enters_of Try.func27 (by kernel_rfl) rfl, fun args H v cs hv hcs => ?_⟩
  unfold ctrRefRoot at hv
  split at hv
  · rename_i H' x n m
    split at hv
    · rename_i y hy
      cases hd : decide (n = 2 ∧ m = 64) <;> simp only [hd, cond_true, cond_false] at hv
      · cases hv
      · cases hv
        obtain ⟨rfl, rfl⟩ := of_decide_eq_true hd
        refine ⟨_, rfl, fun Hr Args ha _ _ w _ => ?_⟩
        cases ha with | cons a1 ha => cases ha with | cons a2 ha => cases ha with | cons a3 ha =>
        cases ha
        rw [asBv_sound hy a1 rfl]
        cases a2
        cases a3
        exact refRoot_any y w
    · cases hv
  · cases hv
noncomputable def tabQ (R : Rws) : List (Nat × CtrF) := [(27, ctrRefRoot),
  (26, ctrT asN (fun (x : BitVec 64) => .bv .u64 (limb (rtN x 68) 0)))]
theorem tabQ_ok {R : Rws} (hR : RwOK R) : ∀ p ∈ tabQ R, Good Try.prog R p.1 p.2 := by
  have h0 : Good Try.prog R 27 ( ctrRefRoot) := ctrRefRoot_ok
  have h1 : Good Try.prog R 26 ( ctrT asN (fun (x : BitVec 64) => .bv .u64 (limb (rtN x 68) 0))) := ctrT_ok (enc := (fun x : BitVec 64 => Value.int .u64 (x.toNat : Int))) (V := fun (x : BitVec 64) => .int .u64 ((limb (rtN x 68) 0).toNat : Int)) (fun h => asN_rel h) (enters_of Try.func26 (by kernel_rfl) rfl) (fun _ => rfl) (fun x w => root_any x w)
  exact good_cons (p := (_, _)) h0 (good_cons (p := (_, _)) h1 (good_nil))
noncomputable def EQ : Env := mkEnvM noRows (tabQ noRows) []
theorem EQ_ok : EnvOK EQ := mkEnvM_ok rwOK_no (tabQ_ok rwOK_no) goodM_nil
def begL : List (BitVec 64) := [7640891576956012808#64, 13503953896175478587#64, 4354685564936845355#64, 11912009170470909681#64, 5840696475078001361#64, 11170449401992604703#64, 2270897969802886507#64, 6620516959819538809#64]
def begA : List AV := begL.map fun b => .bv .u64 b
theorem beg_ev : Is (evCall EQ 60 10 [] ⟨[], [], allW⟩ (fun v _ => v = .agg [.bv .u64 (limb (rtN 2#64 68) 0), .bv .u64 (limb (rtN 3#64 68) 0), .bv .u64 (limb (rtN 5#64 68) 0), .bv .u64 (limb (rtN 7#64 68) 0), .bv .u64 (limb (rtN 11#64 68) 0), .bv .u64 (limb (rtN 13#64 68) 0), .bv .u64 (limb (rtN 17#64 68) 0), .bv .u64 (limb (rtN 19#64 68) 0)])) := ev_eq [] (.agg [.bv .u64 (limb (rtN 2#64 68) 0), .bv .u64 (limb (rtN 3#64 68) 0), .bv .u64 (limb (rtN 5#64 68) 0), .bv .u64 (limb (rtN 7#64 68) 0), .bv .u64 (limb (rtN 11#64 68) 0), .bv .u64 (limb (rtN 13#64 68) 0), .bv .u64 (limb (rtN 17#64 68) 0), .bv .u64 (limb (rtN 19#64 68) 0)] : AV) (by kernel_rfl) trivial
theorem rbeg_ev : Is (evCall EQ 60 11 [] ⟨[], [], allW⟩ (fun v _ => v = .agg [.bv .u64 (rfN (tpN 2#64 128) 69).1, .bv .u64 (rfN (tpN 3#64 128) 69).1, .bv .u64 (rfN (tpN 5#64 128) 69).1, .bv .u64 (rfN (tpN 7#64 128) 69).1, .bv .u64 (rfN (tpN 11#64 128) 69).1, .bv .u64 (rfN (tpN 13#64 128) 69).1, .bv .u64 (rfN (tpN 17#64 128) 69).1, .bv .u64 (rfN (tpN 19#64 128) 69).1])) := ev_eq [] (.agg [.bv .u64 (rfN (tpN 2#64 128) 69).1, .bv .u64 (rfN (tpN 3#64 128) 69).1, .bv .u64 (rfN (tpN 5#64 128) 69).1, .bv .u64 (rfN (tpN 7#64 128) 69).1, .bv .u64 (rfN (tpN 11#64 128) 69).1, .bv .u64 (rfN (tpN 13#64 128) 69).1, .bv .u64 (rfN (tpN 17#64 128) 69).1, .bv .u64 (rfN (tpN 19#64 128) 69).1] : AV) (by kernel_rfl) trivial
theorem beg_0 : limb (rtN 2#64 68) 0 = 7640891576956012808#64 := by decide +kernel
theorem rbeg_0 : (rfN (tpN 2#64 128) 69).1 = 7640891576956012808#64 := by decide +kernel
theorem beg_1 : limb (rtN 3#64 68) 0 = 13503953896175478587#64 := by decide +kernel
theorem rbeg_1 : (rfN (tpN 3#64 128) 69).1 = 13503953896175478587#64 := by decide +kernel
theorem beg_2 : limb (rtN 5#64 68) 0 = 4354685564936845355#64 := by decide +kernel
theorem rbeg_2 : (rfN (tpN 5#64 128) 69).1 = 4354685564936845355#64 := by decide +kernel
theorem beg_3 : limb (rtN 7#64 68) 0 = 11912009170470909681#64 := by decide +kernel
theorem rbeg_3 : (rfN (tpN 7#64 128) 69).1 = 11912009170470909681#64 := by decide +kernel
theorem beg_4 : limb (rtN 11#64 68) 0 = 5840696475078001361#64 := by decide +kernel
theorem rbeg_4 : (rfN (tpN 11#64 128) 69).1 = 5840696475078001361#64 := by decide +kernel
theorem beg_5 : limb (rtN 13#64 68) 0 = 11170449401992604703#64 := by decide +kernel
theorem rbeg_5 : (rfN (tpN 13#64 128) 69).1 = 11170449401992604703#64 := by decide +kernel
theorem beg_6 : limb (rtN 17#64 68) 0 = 2270897969802886507#64 := by decide +kernel
theorem rbeg_6 : (rfN (tpN 17#64 128) 69).1 = 2270897969802886507#64 := by decide +kernel
theorem beg_7 : limb (rtN 19#64 68) 0 = 6620516959819538809#64 := by decide +kernel
theorem rbeg_7 : (rfN (tpN 19#64 128) 69).1 = 6620516959819538809#64 := by decide +kernel
theorem beg_any (w : World) : Calls Try.prog 10 #[] w fun e w' => e = .returned (.agg #[.int .u64 ((7640891576956012808#64 : BitVec 64).toNat : Int), .int .u64 ((13503953896175478587#64 : BitVec 64).toNat : Int), .int .u64 ((4354685564936845355#64 : BitVec 64).toNat : Int), .int .u64 ((11912009170470909681#64 : BitVec 64).toNat : Int), .int .u64 ((5840696475078001361#64 : BitVec 64).toNat : Int), .int .u64 ((11170449401992604703#64 : BitVec 64).toNat : Int), .int .u64 ((2270897969802886507#64 : BitVec 64).toNat : Int), .int .u64 ((6620516959819538809#64 : BitVec 64).toNat : Int)]) ∧ Below w.heap.size w w' := by
  have h := beg_ev
  rw [beg_0, beg_1, beg_2, beg_3, beg_4, beg_5, beg_6, beg_7] at h
  exact ev_callsI EQ_ok 60 h rfl .nil rfl w
theorem rbeg_any (w : World) : Calls Try.prog 11 #[] w fun e w' => e = .returned (.agg #[.int .u64 ((7640891576956012808#64 : BitVec 64).toNat : Int), .int .u64 ((13503953896175478587#64 : BitVec 64).toNat : Int), .int .u64 ((4354685564936845355#64 : BitVec 64).toNat : Int), .int .u64 ((11912009170470909681#64 : BitVec 64).toNat : Int), .int .u64 ((5840696475078001361#64 : BitVec 64).toNat : Int), .int .u64 ((11170449401992604703#64 : BitVec 64).toNat : Int), .int .u64 ((2270897969802886507#64 : BitVec 64).toNat : Int), .int .u64 ((6620516959819538809#64 : BitVec 64).toNat : Int)]) ∧ Below w.heap.size w w' := by
  have h := rbeg_ev
  rw [rbeg_0, rbeg_1, rbeg_2, rbeg_3, rbeg_4, rbeg_5, rbeg_6, rbeg_7] at h
  exact ev_callsI EQ_ok 60 h rfl .nil rfl w
noncomputable def tabG (R : Rws) : List (Nat × CtrF) := [(10, ctr0 (.agg begA)),
  (11, ctr0 (.agg begA))]
theorem tabG_ok {R : Rws} (hR : RwOK R) : ∀ p ∈ tabG R, Good Try.prog R p.1 p.2 := by
  have h0 : Good Try.prog R 10 ( ctr0 (.agg begA)) := ctr0_ok (enters_of Try.func10 (by kernel_rfl) rfl) rfl (fun w => beg_any w)
  have h1 : Good Try.prog R 11 ( ctr0 (.agg begA)) := ctr0_ok (enters_of Try.func11 (by kernel_rfl) rfl) rfl (fun w => rbeg_any w)
  exact good_cons (p := (_, _)) h0 (good_cons (p := (_, _)) h1 (good_nil))
end

section
noncomputable def tabS (R : Rws) : List (Nat × CtrF) := (13, ctrRound) :: tabG R
theorem tabS_ok {R : Rws} (hR : RwOK R) : ∀ p ∈ tabS R, Good Try.prog R p.1 p.2 := good_cons (p := (_, _)) ctrRound_ok (tabG_ok hR)
noncomputable def ES : Env := ⟨Try.prog, eqsK Try.prog, noRows, lookF (tabS noRows), lookCm [(24, roundF)], fun _ => false, fun _ => false, effM⟩
theorem ES_ok : EnvOK ES := ⟨eqsK_ok, rwOK_no, fun f F h => lookF_ok (tabS_ok rwOK_no) f F h, fun f F h => lookCm_ok (goodM_cons (q := (_, _)) roundF_ok goodM_nil) f F h, rfl⟩
/-- What is milled. -/
structure XM where
  n : Nat
  h : Nat → BitVec 64
  m : Nat → BitVec 64
  o0 : BitVec 64
  o1 : BitVec 64
  last : Bool
def xA (x : XM) : List AV := [.int .u32 false (x.n : Int), .bv .u64 (x.h 0), .bv .u64 (x.h 1), .bv .u64 (x.h 2), .bv .u64 (x.h 3), .bv .u64 (x.h 4), .bv .u64 (x.h 5), .bv .u64 (x.h 6), .bv .u64 (x.h 7), .bv .u64 (x.m 0), .bv .u64 (x.m 1), .bv .u64 (x.m 2), .bv .u64 (x.m 3), .bv .u64 (x.m 4), .bv .u64 (x.m 5), .bv .u64 (x.m 6), .bv .u64 (x.m 7), .bv .u64 (x.m 8), .bv .u64 (x.m 9), .bv .u64 (x.m 10), .bv .u64 (x.m 11), .bv .u64 (x.m 12), .bv .u64 (x.m 13), .bv .u64 (x.m 14), .bv .u64 (x.m 15), .bv .u64 x.o0, .bv .u64 x.o1, .bool false x.last]
def xV (x : XM) : List Value := [.int .u32 (x.n : Int), .int .u64 ((x.h 0).toNat : Int), .int .u64 ((x.h 1).toNat : Int), .int .u64 ((x.h 2).toNat : Int), .int .u64 ((x.h 3).toNat : Int), .int .u64 ((x.h 4).toNat : Int), .int .u64 ((x.h 5).toNat : Int), .int .u64 ((x.h 6).toNat : Int), .int .u64 ((x.h 7).toNat : Int), .int .u64 ((x.m 0).toNat : Int), .int .u64 ((x.m 1).toNat : Int), .int .u64 ((x.m 2).toNat : Int), .int .u64 ((x.m 3).toNat : Int), .int .u64 ((x.m 4).toNat : Int), .int .u64 ((x.m 5).toNat : Int), .int .u64 ((x.m 6).toNat : Int), .int .u64 ((x.m 7).toNat : Int), .int .u64 ((x.m 8).toNat : Int), .int .u64 ((x.m 9).toNat : Int), .int .u64 ((x.m 10).toNat : Int), .int .u64 ((x.m 11).toNat : Int), .int .u64 ((x.m 12).toNat : Int), .int .u64 ((x.m 13).toNat : Int), .int .u64 ((x.m 14).toNat : Int), .int .u64 ((x.m 15).toNat : Int), .int .u64 (x.o0.toNat : Int), .int .u64 (x.o1.toNat : Int), .bool x.last]
theorem rel_xA {R : Rws} {ρ : Nums} (x : XM) : Rel R ρ (.agg (xA x)) (.agg (xV x).toArray) := .agg (RelL.of_vals rfl)
/-- The sixteen numbers ahead of all rounds. -/
def madeV (x : XM) (b : Bool) : Nat → BitVec 64 := fun i => ([x.h 0, x.h 1, x.h 2, x.h 3, x.h 4, x.h 5, x.h 6, x.h 7, 7640891576956012808#64, 13503953896175478587#64, 4354685564936845355#64, 11912009170470909681#64, 5840696475078001361#64 ^^^ x.o0, 11170449401992604703#64 ^^^ x.o1, bif b then ~~~ 2270897969802886507#64 else 2270897969802886507#64, 6620516959819538809#64] : List (BitVec 64)).getD i 0#64
/-- Behind k rounds. -/
def vR (x : XM) (b : Bool) : Nat → Nat → BitVec 64
  | 0 => madeV x b
  | k + 1 => roundB (reV (vR x b k)) (reV x.m) (k % 10)
def fA (x : XM) (b : Bool) : List AV := [.bv .u64 (x.h 0 ^^^ vR x b x.n 0 ^^^ vR x b x.n 8), .bv .u64 (x.h 1 ^^^ vR x b x.n 1 ^^^ vR x b x.n 9), .bv .u64 (x.h 2 ^^^ vR x b x.n 2 ^^^ vR x b x.n 10), .bv .u64 (x.h 3 ^^^ vR x b x.n 3 ^^^ vR x b x.n 11), .bv .u64 (x.h 4 ^^^ vR x b x.n 4 ^^^ vR x b x.n 12), .bv .u64 (x.h 5 ^^^ vR x b x.n 5 ^^^ vR x b x.n 13), .bv .u64 (x.h 6 ^^^ vR x b x.n 6 ^^^ vR x b x.n 14), .bv .u64 (x.h 7 ^^^ vR x b x.n 7 ^^^ vR x b x.n 15)]
def fV (x : XM) (b : Bool) : List Value := [.int .u64 ((x.h 0 ^^^ vR x b x.n 0 ^^^ vR x b x.n 8).toNat : Int), .int .u64 ((x.h 1 ^^^ vR x b x.n 1 ^^^ vR x b x.n 9).toNat : Int), .int .u64 ((x.h 2 ^^^ vR x b x.n 2 ^^^ vR x b x.n 10).toNat : Int), .int .u64 ((x.h 3 ^^^ vR x b x.n 3 ^^^ vR x b x.n 11).toNat : Int), .int .u64 ((x.h 4 ^^^ vR x b x.n 4 ^^^ vR x b x.n 12).toNat : Int), .int .u64 ((x.h 5 ^^^ vR x b x.n 5 ^^^ vR x b x.n 13).toNat : Int), .int .u64 ((x.h 6 ^^^ vR x b x.n 6 ^^^ vR x b x.n 14).toNat : Int), .int .u64 ((x.h 7 ^^^ vR x b x.n 7 ^^^ vR x b x.n 15).toNat : Int)]
theorem told_fA (x : XM) (b : Bool) : (AV.agg (fA x b)).told? = some (.agg (fV x b).toArray) := rfl
theorem wrap_n {n : Nat} (h : n ≤ 100000) : IntKind.wrap IntKind.i64 (n : Int) = (n : Int) := by rw [IntKind.wrap_i64]; omega
end
end Go.Proofs.Ytjlijocnmicdpaa
