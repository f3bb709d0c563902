/- Layer 03: shifts, by the evaluator. No condition. -/
import Derived.Test.YtoobfgahbndhjaaDoorEyQ
import Derived.Test.YtoobfgahbndhjaaDoorBTr
set_option linter.unusedVariables false
set_option linter.unusedSimpArgs false
set_option maxRecDepth 100000
namespace Go.Proofs.YtoobfgahbndhjaaDoor
open Go.RowKit

section
def atP (p : BitVec 256) (i : Int) (x : BitVec 64) : BitVec 64 := if 0 ≤ i ∧ i < 4 then limb p i.toNat else x
theorem at_lo (p : BitVec 256) (i : Int) (x : BitVec 64) (h : AllE [(decide (i < 0), true)]) : Is (evCall (mkEnv noRows []) 60 60 [wA p, .int .i64 false i, b64 x] ⟨[], [true], allW⟩ (fun v _ => v = .bv .u64 x)) := ev_eq [(decide (i < 0), true)] (.bv .u64 x : AV) (by kernel_rfl) h
theorem at_hi (p : BitVec 256) (i : Int) (x : BitVec 64) (h : AllE [(decide (i < 0), false), (decide (i ≥ 4), true)]) : Is (evCall (mkEnv noRows []) 60 60 [wA p, .int .i64 false i, b64 x] ⟨[], [false, true], allW⟩ (fun v _ => v = .bv .u64 x)) := ev_eq [(decide (i < 0), false), (decide (i ≥ 4), true)] (.bv .u64 x : AV) (by kernel_rfl) h
theorem at_0 (p : BitVec 256) (x : BitVec 64) : Is (evCall (mkEnv noRows []) 60 60 [wA p, .int .i64 true 0, b64 x] ⟨[], [], allW⟩ (fun v _ => v = .bv .u64 (limb p 0))) := ev_eq [] (.bv .u64 (limb p 0) : AV) (by kernel_rfl) trivial
theorem at_1 (p : BitVec 256) (x : BitVec 64) : Is (evCall (mkEnv noRows []) 60 60 [wA p, .int .i64 true 1, b64 x] ⟨[], [], allW⟩ (fun v _ => v = .bv .u64 (limb p 1))) := ev_eq [] (.bv .u64 (limb p 1) : AV) (by kernel_rfl) trivial
theorem at_2 (p : BitVec 256) (x : BitVec 64) : Is (evCall (mkEnv noRows []) 60 60 [wA p, .int .i64 true 2, b64 x] ⟨[], [], allW⟩ (fun v _ => v = .bv .u64 (limb p 2))) := ev_eq [] (.bv .u64 (limb p 2) : AV) (by kernel_rfl) trivial
theorem at_3 (p : BitVec 256) (x : BitVec 64) : Is (evCall (mkEnv noRows []) 60 60 [wA p, .int .i64 true 3, b64 x] ⟨[], [], allW⟩ (fun v _ => v = .bv .u64 (limb p 3))) := ev_eq [] (.bv .u64 (limb p 3) : AV) (by kernel_rfl) trivial
theorem at_any (p : BitVec 256) (i : Int) (x : BitVec 64) (w : World) : Calls Tryd.prog 60 #[W p, .int .i64 i, .int .u64 (x.toNat : Int)] w fun e w' => e = .returned (.int .u64 ((atP p i x).toNat : Int)) ∧ Below w.heap.size w w' := by
  have rel : ∀ l, RelL noRows [] [wA p, .int .i64 l i, b64 x] [W p, .int .i64 i, .int .u64 (x.toNat : Int)] := fun l => .cons (rel_wA _ p) (.cons .int (.cons (.bv rfl) .nil))
  unfold atP
  by_cases h0 : i < 0
  · rw [if_neg (by omega)]
    exact ev_callsI E0_ok 60 (at_lo p i x (allE_cons (decide_eq_true h0) allE_nil)) rfl (rel false) rfl w
  by_cases h4 : i ≥ 4
  · rw [if_neg (by omega)]
    exact ev_callsI E0_ok 60 (at_hi p i x (allE_cons (decide_eq_false h0) (allE_cons (decide_eq_true h4) allE_nil))) rfl (rel false) rfl w
  rw [if_pos (by omega)]
  rcases (by omega : i = 0 ∨ i = 1 ∨ i = 2 ∨ i = 3) with rfl | rfl | rfl | rfl
  · rw [show (0 : Int).toNat = 0 from rfl]
    exact ev_callsI E0_ok 60 (at_0 p x) rfl (rel true) rfl w
  · rw [show (1 : Int).toNat = 1 from rfl]
    exact ev_callsI E0_ok 60 (at_1 p x) rfl (rel true) rfl w
  · rw [show (2 : Int).toNat = 2 from rfl]
    exact ev_callsI E0_ok 60 (at_2 p x) rfl (rel true) rfl w
  · rw [show (3 : Int).toNat = 3 from rfl]
    exact ev_callsI E0_ok 60 (at_3 p x) rfl (rel true) rfl w
noncomputable def tabA : List (Nat × CtrF) := [(60, ctrTTT asW (asI .i64) asN (fun (x : BitVec 256) (y : Int) (z : BitVec 64) => b64 (atP x y z)))]
theorem tabA_ok {R : Rws} : ∀ p ∈ tabA, Good Tryd.prog R p.1 p.2 := by
  have h0 : Good Tryd.prog R 60 ( ctrTTT asW (asI .i64) asN (fun (x : BitVec 256) (y : Int) (z : BitVec 64) => b64 (atP x y z))) := ctrTTT_ok (ea := W) (eb := (Value.int .i64)) (ec := (fun x : BitVec 64 => Value.int .u64 (x.toNat : Int))) (V := fun (x : BitVec 256) (y : Int) (z : BitVec 64) => .int .u64 ((atP x y z).toNat : Int)) (fun h => asW_rel h) (fun h => asI_rel h) (fun h => asN_rel h) (enters_of Tryd.func60 (by kernel_rfl) rfl) (fun _ _ _ => rfl) (fun x y z w => at_any x y z w)
  exact good_cons (p := (_, _)) h0 (good_nil)
theorem EA_ok {R : Rws} (hR : RwOK R) : EnvOK (mkEnv R tabA) := mkEnv_ok hR tabA_ok
end

section
theorem limb_bit (x : BitVec 256) (q j : Nat) : (limb x q).getLsbD j = (decide (j < 64) && x.getLsbD (64 * q + j)) := by
  unfold limb BitVec.getLsbD
  rw [BitVec.toNat_ofNat, Nat.testBit_mod_two_pow, Nat.testBit_div_two_pow]
  congr 2
  omega
theorem eq_of_limbs {x y : BitVec 256} (h : ∀ q, q < 4 → limb x q = limb y q) : x = y := by
  rw [← re_eq x, ← re_eq y]
  unfold re
  rw [h 0 (by decide), h 1 (by decide), h 2 (by decide), h 3 (by decide)]
theorem mkW_eq {a b c d : BitVec 64} {y : BitVec 256} (h0 : a = limb y 0) (h1 : b = limb y 1) (h2 : c = limb y 2) (h3 : d = limb y 3) : mkW a b c d = y := by
  rw [h0, h1, h2, h3]; exact re_eq y
theorem W_of_mkW {a b c d : BitVec 64} {y : BitVec 256} (h : mkW a b c d = y) : Value.agg #[.int .u64 a.toNat, .int .u64 b.toNat, .int .u64 c.toNat, .int .u64 d.toNat] = W y := by rw [← h, W_mkW]
theorem atP_bit (p : BitVec 256) (i : Int) (x : BitVec 64) (r : Nat) : (atP p i x).getLsbD r = if 0 ≤ i ∧ i < 4 then (decide (r < 64) && p.getLsbD (64 * i.toNat + r)) else x.getLsbD r := by
  unfold atP
  split
  · exact limb_bit _ _ _
  · rfl
/-- A part of a word that is shifted up. -/
theorem up_limb (p : BitVec 256) (n q : Nat) (hn : n < 256) (hq : q < 4) : atP p ((q : Int) - (n / 64 : Nat)) 0#64 <<< (n % 64) ||| atP p ((q : Int) - (n / 64 : Nat) - 1) 0#64 >>> (64 - n % 64) = limb (p <<< n) q := by
  apply BitVec.eq_of_getLsbD_eq
  intro r hr
  rw [limb_bit, BitVec.getLsbD_or, BitVec.getLsbD_shiftLeft, BitVec.getLsbD_ushiftRight, atP_bit, atP_bit, BitVec.getLsbD_shiftLeft]
  simp only [BitVec.getLsbD_zero, decide_eq_true hr, Bool.true_and]
  have hlt : 64 * q + r < 256 := by omega
  rw [decide_eq_true hlt, Bool.true_and]
  by_cases h1 : r < n % 64
  · rw [decide_eq_true h1]
    simp only [Bool.not_true, Bool.false_and, Bool.false_or]
    by_cases h2 : 64 * q + r < n
    · rw [decide_eq_true h2, if_neg (by omega)]; rfl
    · rw [decide_eq_false h2, if_pos (by omega), decide_eq_true (by omega)]
      simp only [Bool.not_false, Bool.true_and]
      congr 1; omega
  · rw [decide_eq_false h1]
    simp only [Bool.not_false, Bool.true_and]
    have h3 : (if 0 ≤ (q : Int) - (n / 64 : Nat) - 1 ∧ (q : Int) - (n / 64 : Nat) - 1 < 4 then (decide (64 - n % 64 + r < 64) && p.getLsbD (64 * ((q : Int) - (n / 64 : Nat) - 1).toNat + (64 - n % 64 + r))) else false) = false := by
      split
      · rw [decide_eq_false (by omega), Bool.false_and]
      · rfl
    rw [h3, Bool.or_false]
    by_cases h2 : 64 * q + r < n
    · rw [decide_eq_true h2, if_neg (by omega)]; rfl
    · rw [decide_eq_false h2, if_pos (by omega), decide_eq_true (by omega)]
      simp only [Bool.not_false, Bool.true_and]
      congr 1; omega
/-- What comes in from above. -/
def inAll (s : Bool) : BitVec 64 := if s then BitVec.allOnes 64 else 0#64
theorem inAll_bit (s : Bool) (r : Nat) : (inAll s).getLsbD r = (decide (r < 64) && s) := by
  unfold inAll
  cases s
  · simp
  · rw [if_pos rfl, BitVec.getLsbD_allOnes, Bool.and_true]
/-- Shifted down; s comes in. -/
def downW (p : BitVec 256) (n : Nat) (s : Bool) : BitVec 256 := if s then ~~~ ((~~~ p) >>> n) else p >>> n
theorem down_bit (p : BitVec 256) (n : Nat) (s : Bool) (j : Nat) : (downW p n s).getLsbD j = (decide (j < 256) && if n + j < 256 then p.getLsbD (n + j) else s) := by
  unfold downW
  cases s
  · rw [if_neg (by decide), BitVec.getLsbD_ushiftRight]
    split
    · rename_i h; rw [decide_eq_true (by omega), Bool.true_and]
    · rw [Bool.and_false]; exact BitVec.getLsbD_of_ge _ _ (by omega)
  · rw [if_pos rfl, BitVec.getLsbD_not, BitVec.getLsbD_ushiftRight, BitVec.getLsbD_not]
    by_cases h : n + j < 256
    · rw [if_pos h, decide_eq_true h, decide_eq_true (by omega)]; simp
    · rw [if_neg h, decide_eq_false h]; simp
theorem down_limb (p : BitVec 256) (n q : Nat) (s : Bool) (hn : n < 256) (hq : q < 4) : atP p ((q : Int) + (n / 64 : Nat)) (inAll s) >>> (n % 64) ||| atP p ((q : Int) + (n / 64 : Nat) + 1) (inAll s) <<< (64 - n % 64) = limb (downW p n s) q := by
  apply BitVec.eq_of_getLsbD_eq
  intro r hr
  rw [limb_bit, BitVec.getLsbD_or, BitVec.getLsbD_shiftLeft, BitVec.getLsbD_ushiftRight, atP_bit, atP_bit, down_bit]
  simp only [inAll_bit, decide_eq_true hr, Bool.true_and]
  have hlt : 64 * q + r < 256 := by omega
  rw [decide_eq_true hlt, Bool.true_and]
  by_cases h1 : n % 64 + r < 64
  · rw [decide_eq_true (show r < 64 - n % 64 by omega)]
    simp only [Bool.not_true, Bool.false_and, Bool.or_false, decide_eq_true h1, Bool.true_and]
    by_cases h2 : n + (64 * q + r) < 256
    · rw [if_pos h2, if_pos (by omega)]; congr 1; omega
    · rw [if_neg h2, if_neg (by omega)]
  · rw [decide_eq_false (show ¬ r < 64 - n % 64 by omega), decide_eq_false h1]
    simp only [Bool.not_false, Bool.true_and, Bool.false_and]
    have h4 : decide (r - (64 - n % 64) < 64) = true := decide_eq_true (by omega)
    simp only [h4, Bool.true_and, ite_self, Bool.false_or]
    by_cases h2 : n + (64 * q + r) < 256
    · rw [if_pos h2, if_pos (by omega)]
      congr 1; omega
    · rw [if_neg h2, if_neg (show ¬ (0 ≤ (q : Int) + (n / 64 : Nat) + 1 ∧ (q : Int) + (n / 64 : Nat) + 1 < 4) by omega)]
end

section
noncomputable def up_r0 (p : BitVec 256) (n : Int) : AV := AV.agg [AV.bv IntKind.u64 (atP (re p) (IntKind.wrap IntKind.i64 (0 - IntKind.wrap IntKind.i64 (Int.tdiv n 64))) (0#64) <<< Int.toNat (Int.tmod n 64) ||| atP (re p) (IntKind.wrap IntKind.i64 (IntKind.wrap IntKind.i64 (0 - IntKind.wrap IntKind.i64 (Int.tdiv n 64)) - 1)) (0#64) >>> Int.toNat (IntKind.wrap IntKind.i64 (64 - Int.tmod n 64))), AV.bv IntKind.u64 (atP (re p) (IntKind.wrap IntKind.i64 (IntKind.wrap IntKind.i64 (0 + 1) - IntKind.wrap IntKind.i64 (Int.tdiv n 64))) (0#64) <<< Int.toNat (Int.tmod n 64) ||| atP (re p) (IntKind.wrap IntKind.i64 (IntKind.wrap IntKind.i64 (IntKind.wrap IntKind.i64 (0 + 1) - IntKind.wrap IntKind.i64 (Int.tdiv n 64)) - 1)) (0#64) >>> Int.toNat (IntKind.wrap IntKind.i64 (64 - Int.tmod n 64))), AV.bv IntKind.u64 (atP (re p) (IntKind.wrap IntKind.i64 (IntKind.wrap IntKind.i64 (IntKind.wrap IntKind.i64 (0 + 1) + 1) - IntKind.wrap IntKind.i64 (Int.tdiv n 64))) (0#64) <<< Int.toNat (Int.tmod n 64) ||| atP (re p) (IntKind.wrap IntKind.i64 (IntKind.wrap IntKind.i64 (IntKind.wrap IntKind.i64 (IntKind.wrap IntKind.i64 (0 + 1) + 1) - IntKind.wrap IntKind.i64 (Int.tdiv n 64)) - 1)) (0#64) >>> Int.toNat (IntKind.wrap IntKind.i64 (64 - Int.tmod n 64))), AV.bv IntKind.u64 (atP (re p) (IntKind.wrap IntKind.i64 (IntKind.wrap IntKind.i64 (IntKind.wrap IntKind.i64 (IntKind.wrap IntKind.i64 (0 + 1) + 1) + 1) - IntKind.wrap IntKind.i64 (Int.tdiv n 64))) (0#64) <<< Int.toNat (Int.tmod n 64) ||| atP (re p) (IntKind.wrap IntKind.i64 (IntKind.wrap IntKind.i64 (IntKind.wrap IntKind.i64 (IntKind.wrap IntKind.i64 (IntKind.wrap IntKind.i64 (0 + 1) + 1) + 1) - IntKind.wrap IntKind.i64 (Int.tdiv n 64)) - 1)) (0#64) >>> Int.toNat (IntKind.wrap IntKind.i64 (64 - Int.tmod n 64)))]
theorem up_0 (p : BitVec 256) (n : Int) (h : AllE [(decide (0 ≤ Int.tmod n 64), true), (decide (0 ≤ IntKind.wrap IntKind.i64 (64 - Int.tmod n 64)), true), (decide (0 ≤ Int.tmod n 64), true), (decide (0 ≤ IntKind.wrap IntKind.i64 (64 - Int.tmod n 64)), true), (decide (0 ≤ Int.tmod n 64), true), (decide (0 ≤ IntKind.wrap IntKind.i64 (64 - Int.tmod n 64)), true), (decide (0 ≤ Int.tmod n 64), true), (decide (0 ≤ IntKind.wrap IntKind.i64 (64 - Int.tmod n 64)), true)]) : Is (evCall (mkEnv noRows tabA) 60 54 [wA p, .int .i64 false n, .bool true true, b64 0#64] ⟨[], [], allW⟩ (fun v _ => v = up_r0 p n)) := ev_eq [(decide (0 ≤ Int.tmod n 64), true), (decide (0 ≤ IntKind.wrap IntKind.i64 (64 - Int.tmod n 64)), true), (decide (0 ≤ Int.tmod n 64), true), (decide (0 ≤ IntKind.wrap IntKind.i64 (64 - Int.tmod n 64)), true), (decide (0 ≤ Int.tmod n 64), true), (decide (0 ≤ IntKind.wrap IntKind.i64 (64 - Int.tmod n 64)), true), (decide (0 ≤ Int.tmod n 64), true), (decide (0 ≤ IntKind.wrap IntKind.i64 (64 - Int.tmod n 64)), true)] (up_r0 p n) (by kernel_rfl) h
set_option maxHeartbeats 1000000 in
theorem up_any (p : BitVec 256) (n : Int) (hn : 0 ≤ n ∧ n < 256) (w : World) : Calls Tryd.prog 54 #[W p, .int .i64 n, .bool true, .int .u64 ((0#64 : BitVec 64).toNat : Int)] w fun e w' => e = .returned (W (p <<< n.toNat)) ∧ Below w.heap.size w w' := by
  obtain ⟨m, hnm⟩ := Int.eq_ofNat_of_zero_le hn.1
  have hm : m < 256 := by omega
  have e0 : n.toNat = m := by omega
  have e1 : IntKind.wrap IntKind.i64 (Int.tdiv n 64) = ((m / 64 : Nat) : Int) := by rw [hnm, IntKind.wrap_i64, Int.tdiv_eq_ediv_of_nonneg (by omega)]; omega
  have e2 : Int.toNat (Int.tmod n 64) = m % 64 := by rw [hnm, Int.tmod_eq_emod_of_nonneg (by omega)]; omega
  have e3 : Int.toNat (IntKind.wrap IntKind.i64 (64 - Int.tmod n 64)) = 64 - m % 64 := by rw [hnm, IntKind.wrap_i64, Int.tmod_eq_emod_of_nonneg (by omega)]; omega
  have g : ∀ (q : Nat) (z : Int), q < 4 → z = (q : Int) → IntKind.wrap IntKind.i64 (z - ((m / 64 : Nat) : Int)) = (q : Int) - ((m / 64 : Nat) : Int) ∧ IntKind.wrap IntKind.i64 ((q : Int) - ((m / 64 : Nat) : Int) - 1) = (q : Int) - ((m / 64 : Nat) : Int) - 1 := fun q z hq hz => by subst hz; rw [IntKind.wrap_i64, IntKind.wrap_i64]; omega
  have hV : (up_r0 p n).told? = some (W (p <<< n.toNat)) := congrArg some (by 
      refine W_of_mkW (mkW_eq ?_ ?_ ?_ ?_)
      · show atP (re p) (IntKind.wrap IntKind.i64 (0 - IntKind.wrap IntKind.i64 (Int.tdiv n 64))) 0#64 <<< Int.toNat (Int.tmod n 64) ||| atP (re p) (IntKind.wrap IntKind.i64 (IntKind.wrap IntKind.i64 (0 - IntKind.wrap IntKind.i64 (Int.tdiv n 64)) - 1)) 0#64 >>> Int.toNat (IntKind.wrap IntKind.i64 (64 - Int.tmod n 64)) = _
        rw [re_eq, e0, e1, e2, e3, (g 0 0 (by decide) (by decide)).1, (g 0 0 (by decide) (by decide)).2]
        exact up_limb p m 0 hm (by decide)
      · show atP (re p) (IntKind.wrap IntKind.i64 ((IntKind.wrap IntKind.i64 (0 + 1)) - IntKind.wrap IntKind.i64 (Int.tdiv n 64))) 0#64 <<< Int.toNat (Int.tmod n 64) ||| atP (re p) (IntKind.wrap IntKind.i64 (IntKind.wrap IntKind.i64 ((IntKind.wrap IntKind.i64 (0 + 1)) - IntKind.wrap IntKind.i64 (Int.tdiv n 64)) - 1)) 0#64 >>> Int.toNat (IntKind.wrap IntKind.i64 (64 - Int.tmod n 64)) = _
        rw [re_eq, e0, e1, e2, e3, (g 1 (IntKind.wrap IntKind.i64 (0 + 1)) (by decide) (by decide)).1, (g 1 (IntKind.wrap IntKind.i64 (0 + 1)) (by decide) (by decide)).2]
        exact up_limb p m 1 hm (by decide)
      · show atP (re p) (IntKind.wrap IntKind.i64 ((IntKind.wrap IntKind.i64 (IntKind.wrap IntKind.i64 (0 + 1) + 1)) - IntKind.wrap IntKind.i64 (Int.tdiv n 64))) 0#64 <<< Int.toNat (Int.tmod n 64) ||| atP (re p) (IntKind.wrap IntKind.i64 (IntKind.wrap IntKind.i64 ((IntKind.wrap IntKind.i64 (IntKind.wrap IntKind.i64 (0 + 1) + 1)) - IntKind.wrap IntKind.i64 (Int.tdiv n 64)) - 1)) 0#64 >>> Int.toNat (IntKind.wrap IntKind.i64 (64 - Int.tmod n 64)) = _
        rw [re_eq, e0, e1, e2, e3, (g 2 (IntKind.wrap IntKind.i64 (IntKind.wrap IntKind.i64 (0 + 1) + 1)) (by decide) (by decide)).1, (g 2 (IntKind.wrap IntKind.i64 (IntKind.wrap IntKind.i64 (0 + 1) + 1)) (by decide) (by decide)).2]
        exact up_limb p m 2 hm (by decide)
      · show atP (re p) (IntKind.wrap IntKind.i64 ((IntKind.wrap IntKind.i64 (IntKind.wrap IntKind.i64 (IntKind.wrap IntKind.i64 (0 + 1) + 1) + 1)) - IntKind.wrap IntKind.i64 (Int.tdiv n 64))) 0#64 <<< Int.toNat (Int.tmod n 64) ||| atP (re p) (IntKind.wrap IntKind.i64 (IntKind.wrap IntKind.i64 ((IntKind.wrap IntKind.i64 (IntKind.wrap IntKind.i64 (IntKind.wrap IntKind.i64 (0 + 1) + 1) + 1)) - IntKind.wrap IntKind.i64 (Int.tdiv n 64)) - 1)) 0#64 >>> Int.toNat (IntKind.wrap IntKind.i64 (64 - Int.tmod n 64)) = _
        rw [re_eq, e0, e1, e2, e3, (g 3 (IntKind.wrap IntKind.i64 (IntKind.wrap IntKind.i64 (IntKind.wrap IntKind.i64 (0 + 1) + 1) + 1)) (by decide) (by decide)).1, (g 3 (IntKind.wrap IntKind.i64 (IntKind.wrap IntKind.i64 (IntKind.wrap IntKind.i64 (0 + 1) + 1) + 1)) (by decide) (by decide)).2]
        exact up_limb p m 3 hm (by decide)
      )
  exact ev_callsI (EA_ok rwOK_no) 60 (up_0 p n (allE_cons (decide_eq_true (by first | (rw [IntKind.wrap_i64, Int.tmod_eq_emod_of_nonneg (by omega)]; omega) | (rw [Int.tmod_eq_emod_of_nonneg (by omega)]; omega))) (allE_cons (decide_eq_true (by first | (rw [IntKind.wrap_i64, Int.tmod_eq_emod_of_nonneg (by omega)]; omega) | (rw [Int.tmod_eq_emod_of_nonneg (by omega)]; omega))) (allE_cons (decide_eq_true (by first | (rw [IntKind.wrap_i64, Int.tmod_eq_emod_of_nonneg (by omega)]; omega) | (rw [Int.tmod_eq_emod_of_nonneg (by omega)]; omega))) (allE_cons (decide_eq_true (by first | (rw [IntKind.wrap_i64, Int.tmod_eq_emod_of_nonneg (by omega)]; omega) | (rw [Int.tmod_eq_emod_of_nonneg (by omega)]; omega))) (allE_cons (decide_eq_true (by first | (rw [IntKind.wrap_i64, Int.tmod_eq_emod_of_nonneg (by omega)]; omega) | (rw [Int.tmod_eq_emod_of_nonneg (by omega)]; omega))) (allE_cons (decide_eq_true (by first | (rw [IntKind.wrap_i64, Int.tmod_eq_emod_of_nonneg (by omega)]; omega) | (rw [Int.tmod_eq_emod_of_nonneg (by omega)]; omega))) (allE_cons (decide_eq_true (by first | (rw [IntKind.wrap_i64, Int.tmod_eq_emod_of_nonneg (by omega)]; omega) | (rw [Int.tmod_eq_emod_of_nonneg (by omega)]; omega))) (allE_cons (decide_eq_true (by first | (rw [IntKind.wrap_i64, Int.tmod_eq_emod_of_nonneg (by omega)]; omega) | (rw [Int.tmod_eq_emod_of_nonneg (by omega)]; omega))) allE_nil))))))))) hV (.cons (rel_wA _ p) (.cons .int (.cons .bool (.cons (.bv rfl) .nil)))) rfl w
noncomputable def down_r0 (p : BitVec 256) (n : Int) (x : BitVec 64) : AV := AV.agg [AV.bv IntKind.u64 (atP (re p) (IntKind.wrap IntKind.i64 (0 + IntKind.wrap IntKind.i64 (Int.tdiv n 64))) (x) >>> Int.toNat (Int.tmod n 64) ||| atP (re p) (IntKind.wrap IntKind.i64 (IntKind.wrap IntKind.i64 (0 + IntKind.wrap IntKind.i64 (Int.tdiv n 64)) + 1)) (x) <<< Int.toNat (IntKind.wrap IntKind.i64 (64 - Int.tmod n 64))), AV.bv IntKind.u64 (atP (re p) (IntKind.wrap IntKind.i64 (IntKind.wrap IntKind.i64 (0 + 1) + IntKind.wrap IntKind.i64 (Int.tdiv n 64))) (x) >>> Int.toNat (Int.tmod n 64) ||| atP (re p) (IntKind.wrap IntKind.i64 (IntKind.wrap IntKind.i64 (IntKind.wrap IntKind.i64 (0 + 1) + IntKind.wrap IntKind.i64 (Int.tdiv n 64)) + 1)) (x) <<< Int.toNat (IntKind.wrap IntKind.i64 (64 - Int.tmod n 64))), AV.bv IntKind.u64 (atP (re p) (IntKind.wrap IntKind.i64 (IntKind.wrap IntKind.i64 (IntKind.wrap IntKind.i64 (0 + 1) + 1) + IntKind.wrap IntKind.i64 (Int.tdiv n 64))) (x) >>> Int.toNat (Int.tmod n 64) ||| atP (re p) (IntKind.wrap IntKind.i64 (IntKind.wrap IntKind.i64 (IntKind.wrap IntKind.i64 (IntKind.wrap IntKind.i64 (0 + 1) + 1) + IntKind.wrap IntKind.i64 (Int.tdiv n 64)) + 1)) (x) <<< Int.toNat (IntKind.wrap IntKind.i64 (64 - Int.tmod n 64))), AV.bv IntKind.u64 (atP (re p) (IntKind.wrap IntKind.i64 (IntKind.wrap IntKind.i64 (IntKind.wrap IntKind.i64 (IntKind.wrap IntKind.i64 (0 + 1) + 1) + 1) + IntKind.wrap IntKind.i64 (Int.tdiv n 64))) (x) >>> Int.toNat (Int.tmod n 64) ||| atP (re p) (IntKind.wrap IntKind.i64 (IntKind.wrap IntKind.i64 (IntKind.wrap IntKind.i64 (IntKind.wrap IntKind.i64 (IntKind.wrap IntKind.i64 (0 + 1) + 1) + 1) + IntKind.wrap IntKind.i64 (Int.tdiv n 64)) + 1)) (x) <<< Int.toNat (IntKind.wrap IntKind.i64 (64 - Int.tmod n 64)))]
theorem down_0 (p : BitVec 256) (n : Int) (x : BitVec 64) (h : AllE [(decide (0 ≤ Int.tmod n 64), true), (decide (0 ≤ IntKind.wrap IntKind.i64 (64 - Int.tmod n 64)), true), (decide (0 ≤ Int.tmod n 64), true), (decide (0 ≤ IntKind.wrap IntKind.i64 (64 - Int.tmod n 64)), true), (decide (0 ≤ Int.tmod n 64), true), (decide (0 ≤ IntKind.wrap IntKind.i64 (64 - Int.tmod n 64)), true), (decide (0 ≤ Int.tmod n 64), true), (decide (0 ≤ IntKind.wrap IntKind.i64 (64 - Int.tmod n 64)), true)]) : Is (evCall (mkEnv noRows tabA) 60 54 [wA p, .int .i64 false n, .bool true false, b64 x] ⟨[], [], allW⟩ (fun v _ => v = down_r0 p n x)) := ev_eq [(decide (0 ≤ Int.tmod n 64), true), (decide (0 ≤ IntKind.wrap IntKind.i64 (64 - Int.tmod n 64)), true), (decide (0 ≤ Int.tmod n 64), true), (decide (0 ≤ IntKind.wrap IntKind.i64 (64 - Int.tmod n 64)), true), (decide (0 ≤ Int.tmod n 64), true), (decide (0 ≤ IntKind.wrap IntKind.i64 (64 - Int.tmod n 64)), true), (decide (0 ≤ Int.tmod n 64), true), (decide (0 ≤ IntKind.wrap IntKind.i64 (64 - Int.tmod n 64)), true)] (down_r0 p n x) (by kernel_rfl) h
set_option maxHeartbeats 1000000 in
theorem down_any (p : BitVec 256) (n : Int) (x : BitVec 64) (hn : 0 ≤ n ∧ n < 256) (s : Bool) (hx : x = inAll s) (w : World) : Calls Tryd.prog 54 #[W p, .int .i64 n, .bool false, .int .u64 ((x : BitVec 64).toNat : Int)] w fun e w' => e = .returned (W (downW p n.toNat s)) ∧ Below w.heap.size w w' := by
  obtain ⟨m, hnm⟩ := Int.eq_ofNat_of_zero_le hn.1
  have hm : m < 256 := by omega
  have e0 : n.toNat = m := by omega
  have e1 : IntKind.wrap IntKind.i64 (Int.tdiv n 64) = ((m / 64 : Nat) : Int) := by rw [hnm, IntKind.wrap_i64, Int.tdiv_eq_ediv_of_nonneg (by omega)]; omega
  have e2 : Int.toNat (Int.tmod n 64) = m % 64 := by rw [hnm, Int.tmod_eq_emod_of_nonneg (by omega)]; omega
  have e3 : Int.toNat (IntKind.wrap IntKind.i64 (64 - Int.tmod n 64)) = 64 - m % 64 := by rw [hnm, IntKind.wrap_i64, Int.tmod_eq_emod_of_nonneg (by omega)]; omega
  have g : ∀ (q : Nat) (z : Int), q < 4 → z = (q : Int) → IntKind.wrap IntKind.i64 (z + ((m / 64 : Nat) : Int)) = (q : Int) + ((m / 64 : Nat) : Int) ∧ IntKind.wrap IntKind.i64 ((q : Int) + ((m / 64 : Nat) : Int) + 1) = (q : Int) + ((m / 64 : Nat) : Int) + 1 := fun q z hq hz => by subst hz; rw [IntKind.wrap_i64, IntKind.wrap_i64]; omega
  have hV : (down_r0 p n x).told? = some (W (downW p n.toNat s)) := congrArg some (by 
      refine W_of_mkW (mkW_eq ?_ ?_ ?_ ?_)
      · show atP (re p) (IntKind.wrap IntKind.i64 (0 + IntKind.wrap IntKind.i64 (Int.tdiv n 64))) x >>> Int.toNat (Int.tmod n 64) ||| atP (re p) (IntKind.wrap IntKind.i64 (IntKind.wrap IntKind.i64 (0 + IntKind.wrap IntKind.i64 (Int.tdiv n 64)) + 1)) x <<< Int.toNat (IntKind.wrap IntKind.i64 (64 - Int.tmod n 64)) = _
        rw [re_eq, e0, e1, e2, e3, (g 0 0 (by decide) (by decide)).1, (g 0 0 (by decide) (by decide)).2, hx]
        exact down_limb p m 0 s hm (by decide)
      · show atP (re p) (IntKind.wrap IntKind.i64 ((IntKind.wrap IntKind.i64 (0 + 1)) + IntKind.wrap IntKind.i64 (Int.tdiv n 64))) x >>> Int.toNat (Int.tmod n 64) ||| atP (re p) (IntKind.wrap IntKind.i64 (IntKind.wrap IntKind.i64 ((IntKind.wrap IntKind.i64 (0 + 1)) + IntKind.wrap IntKind.i64 (Int.tdiv n 64)) + 1)) x <<< Int.toNat (IntKind.wrap IntKind.i64 (64 - Int.tmod n 64)) = _
        rw [re_eq, e0, e1, e2, e3, (g 1 (IntKind.wrap IntKind.i64 (0 + 1)) (by decide) (by decide)).1, (g 1 (IntKind.wrap IntKind.i64 (0 + 1)) (by decide) (by decide)).2, hx]
        exact down_limb p m 1 s hm (by decide)
      · show atP (re p) (IntKind.wrap IntKind.i64 ((IntKind.wrap IntKind.i64 (IntKind.wrap IntKind.i64 (0 + 1) + 1)) + IntKind.wrap IntKind.i64 (Int.tdiv n 64))) x >>> Int.toNat (Int.tmod n 64) ||| atP (re p) (IntKind.wrap IntKind.i64 (IntKind.wrap IntKind.i64 ((IntKind.wrap IntKind.i64 (IntKind.wrap IntKind.i64 (0 + 1) + 1)) + IntKind.wrap IntKind.i64 (Int.tdiv n 64)) + 1)) x <<< Int.toNat (IntKind.wrap IntKind.i64 (64 - Int.tmod n 64)) = _
        rw [re_eq, e0, e1, e2, e3, (g 2 (IntKind.wrap IntKind.i64 (IntKind.wrap IntKind.i64 (0 + 1) + 1)) (by decide) (by decide)).1, (g 2 (IntKind.wrap IntKind.i64 (IntKind.wrap IntKind.i64 (0 + 1) + 1)) (by decide) (by decide)).2, hx]
        exact down_limb p m 2 s hm (by decide)
      · show atP (re p) (IntKind.wrap IntKind.i64 ((IntKind.wrap IntKind.i64 (IntKind.wrap IntKind.i64 (IntKind.wrap IntKind.i64 (0 + 1) + 1) + 1)) + IntKind.wrap IntKind.i64 (Int.tdiv n 64))) x >>> Int.toNat (Int.tmod n 64) ||| atP (re p) (IntKind.wrap IntKind.i64 (IntKind.wrap IntKind.i64 ((IntKind.wrap IntKind.i64 (IntKind.wrap IntKind.i64 (IntKind.wrap IntKind.i64 (0 + 1) + 1) + 1)) + IntKind.wrap IntKind.i64 (Int.tdiv n 64)) + 1)) x <<< Int.toNat (IntKind.wrap IntKind.i64 (64 - Int.tmod n 64)) = _
        rw [re_eq, e0, e1, e2, e3, (g 3 (IntKind.wrap IntKind.i64 (IntKind.wrap IntKind.i64 (IntKind.wrap IntKind.i64 (0 + 1) + 1) + 1)) (by decide) (by decide)).1, (g 3 (IntKind.wrap IntKind.i64 (IntKind.wrap IntKind.i64 (IntKind.wrap IntKind.i64 (0 + 1) + 1) + 1)) (by decide) (by decide)).2, hx]
        exact down_limb p m 3 s hm (by decide)
      )
  exact ev_callsI (EA_ok rwOK_no) 60 (down_0 p n x (allE_cons (decide_eq_true (by first | (rw [IntKind.wrap_i64, Int.tmod_eq_emod_of_nonneg (by omega)]; omega) | (rw [Int.tmod_eq_emod_of_nonneg (by omega)]; omega))) (allE_cons (decide_eq_true (by first | (rw [IntKind.wrap_i64, Int.tmod_eq_emod_of_nonneg (by omega)]; omega) | (rw [Int.tmod_eq_emod_of_nonneg (by omega)]; omega))) (allE_cons (decide_eq_true (by first | (rw [IntKind.wrap_i64, Int.tmod_eq_emod_of_nonneg (by omega)]; omega) | (rw [Int.tmod_eq_emod_of_nonneg (by omega)]; omega))) (allE_cons (decide_eq_true (by first | (rw [IntKind.wrap_i64, Int.tmod_eq_emod_of_nonneg (by omega)]; omega) | (rw [Int.tmod_eq_emod_of_nonneg (by omega)]; omega))) (allE_cons (decide_eq_true (by first | (rw [IntKind.wrap_i64, Int.tmod_eq_emod_of_nonneg (by omega)]; omega) | (rw [Int.tmod_eq_emod_of_nonneg (by omega)]; omega))) (allE_cons (decide_eq_true (by first | (rw [IntKind.wrap_i64, Int.tmod_eq_emod_of_nonneg (by omega)]; omega) | (rw [Int.tmod_eq_emod_of_nonneg (by omega)]; omega))) (allE_cons (decide_eq_true (by first | (rw [IntKind.wrap_i64, Int.tmod_eq_emod_of_nonneg (by omega)]; omega) | (rw [Int.tmod_eq_emod_of_nonneg (by omega)]; omega))) (allE_cons (decide_eq_true (by first | (rw [IntKind.wrap_i64, Int.tmod_eq_emod_of_nonneg (by omega)]; omega) | (rw [Int.tmod_eq_emod_of_nonneg (by omega)]; omega))) allE_nil))))))))) hV (.cons (rel_wA _ p) (.cons .int (.cons .bool (.cons (.bv rfl) .nil)))) rfl w

theorem limb_nat (x : BitVec 256) : x.toNat = (limb x 0).toNat + 18446744073709551616 * (limb x 1).toNat + 340282366920938463463374607431768211456 * (limb x 2).toNat + 6277101735386680763835789423207666416102355444464034512896 * (limb x 3).toNat := by
  have h := congrArg BitVec.toNat (re_eq x)
  rw [← h]
  exact mkW_nat _ _ _ _
theorem z_test (y : BitVec 64) : (((y.toNat : Nat) : Int) == 0) = decide (y.toNat = 0) := by
  rw [Bool.eq_iff_iff, beq_iff_eq, decide_eq_true_eq]; omega
theorem small_test (a : BitVec 256) : (true != (limb a 0 == limb a 0 && (((limb a 1).toNat : Int) == 0 && (((limb a 2).toNat : Int) == 0 && (((limb a 3).toNat : Int) == 0 && true))))) = decide (18446744073709551616 ≤ a.toNat) := by
  have h := limb_nat a
  have h0 := (limb a 0).isLt
  rw [beq_self_eq_true, z_test, z_test, z_test, Bool.true_and, Bool.and_true]
  by_cases h1 : (limb a 1).toNat = 0 <;> by_cases h2 : (limb a 2).toNat = 0 <;> by_cases h3 : (limb a 3).toNat = 0 <;> simp [h1, h2, h3] <;> omega
theorem limb0_small {a : BitVec 256} (h : a.toNat < 18446744073709551616) : (limb a 0).toNat = a.toNat := by
  have := limb_nat a
  have h0 := (limb a 0).isLt
  omega
/-- A word below a bound: the number, or the bound; is it below? -/
def smI (a : BitVec 256) (b : BitVec 64) : Int := if a.toNat < 18446744073709551616 then ((min a.toNat b.toNat : Nat) : Int) else 0
def smB (a : BitVec 256) (b : BitVec 64) : Bool := decide (a.toNat < b.toNat)
theorem blt_dec (m n : Nat) : Nat.blt m n = decide (m < n) := by rw [Bool.eq_iff_iff, Nat.blt_eq, decide_eq_true_eq]
theorem small_plain {a : BitVec 256} {b : BitVec 64} (hb : b.toNat ≤ 256) (h : a.toNat < 18446744073709551616) : Value.tuple #[.int .i64 (IntKind.wrap IntKind.i64 (if (b.toNat : Int) < ((limb a 0).toNat : Int) then (b.toNat : Int) else ((limb a 0).toNat : Int))), .bool (Nat.blt (limb a 0).toNat b.toNat)] = .tuple #[.int .i64 (smI a b), .bool (smB a b)] := by
  have e := limb0_small h
  have e2 : (if (b.toNat : Int) < (a.toNat : Int) then (b.toNat : Int) else (a.toNat : Int)) = ((min a.toNat b.toNat : Nat) : Int) := by split <;> omega
  unfold smI smB
  rw [if_pos h, e, e2, blt_dec, IntWalk.i64_in _ (by omega)]
end

section
noncomputable def small_r0 (a : BitVec 256) (b : BitVec 64) : AV := AV.tuple [AV.int IntKind.i64 false 0, AV.bool true false]
theorem small_0 (a : BitVec 256) (b : BitVec 64) (h : AllE [(true != (limb a 0 == limb a 0 && ((↑(BitVec.toNat (limb a 1)) : Int) == 0 && ((↑(BitVec.toNat (limb a 2)) : Int) == 0 && ((↑(BitVec.toNat (limb a 3)) : Int) == 0 && true)))), true)]) : Is (evCall (mkEnv noRows tabA) 60 37 [wA a, b64 b] ⟨[], [true], allW⟩ (fun v _ => v = small_r0 a b)) := ev_eq [(true != (limb a 0 == limb a 0 && ((↑(BitVec.toNat (limb a 1)) : Int) == 0 && ((↑(BitVec.toNat (limb a 2)) : Int) == 0 && ((↑(BitVec.toNat (limb a 3)) : Int) == 0 && true)))), true)] (small_r0 a b) (by kernel_rfl) h
noncomputable def small_r1 (a : BitVec 256) (b : BitVec 64) : AV := AV.tuple [AV.int IntKind.i64 false (IntKind.wrap IntKind.i64 (bif false then if (↑(BitVec.toNat b) : Int) > (↑(BitVec.toNat (limb a 0)) : Int) then (↑(BitVec.toNat b) : Int) else (↑(BitVec.toNat (limb a 0)) : Int) else if (↑(BitVec.toNat b) : Int) < (↑(BitVec.toNat (limb a 0)) : Int) then (↑(BitVec.toNat b) : Int) else (↑(BitVec.toNat (limb a 0)) : Int))), AV.bool false (Nat.blt (BitVec.toNat (limb a 0)) (BitVec.toNat (b)))]
theorem small_1 (a : BitVec 256) (b : BitVec 64) (h : AllE [(true != (limb a 0 == limb a 0 && ((↑(BitVec.toNat (limb a 1)) : Int) == 0 && ((↑(BitVec.toNat (limb a 2)) : Int) == 0 && ((↑(BitVec.toNat (limb a 3)) : Int) == 0 && true)))), false)]) : Is (evCall (mkEnv noRows tabA) 60 37 [wA a, b64 b] ⟨[], [false], allW⟩ (fun v _ => v = small_r1 a b)) := ev_eq [(true != (limb a 0 == limb a 0 && ((↑(BitVec.toNat (limb a 1)) : Int) == 0 && ((↑(BitVec.toNat (limb a 2)) : Int) == 0 && ((↑(BitVec.toNat (limb a 3)) : Int) == 0 && true)))), false)] (small_r1 a b) (by kernel_rfl) h
theorem small_any (a : BitVec 256) (b : BitVec 64) (hb : b.toNat ≤ 256) (w : World) : Calls Tryd.prog 37 #[W a, .int .u64 (b.toNat : Int)] w fun e w' => e = .returned (.tuple #[.int .i64 (smI a b), .bool (smB a b)]) ∧ Below w.heap.size w w' := by
  have ht := small_test a
  rcases h0 : (true != (limb a 0 == limb a 0 && ((↑(BitVec.toNat (limb a 1)) : Int) == 0 && ((↑(BitVec.toNat (limb a 2)) : Int) == 0 && ((↑(BitVec.toNat (limb a 3)) : Int) == 0 && true))))) with _ | _
  · have hV : (small_r1 a b).told? = some (.tuple #[.int .i64 (smI a b), .bool (smB a b)]) := congrArg some (by rw [h0] at ht; exact small_plain hb (by have := of_decide_eq_false ht.symm; omega))
    exact ev_callsI (EA_ok rwOK_no) 60 (small_1 a b (allE_cons h0 allE_nil)) hV (.cons (rel_wA _ a) (.cons (.bv rfl) .nil)) rfl w
  · have hV : (small_r0 a b).told? = some (.tuple #[.int .i64 (smI a b), .bool (smB a b)]) := congrArg some (by rw [h0] at ht; have := of_decide_eq_true ht.symm; show Value.tuple #[.int .i64 0, .bool false] = _; unfold smI smB; rw [if_neg (by omega), decide_eq_false (by omega)])
    exact ev_callsI (EA_ok rwOK_no) 60 (small_0 a b (allE_cons h0 allE_nil)) hV (.cons (rel_wA _ a) (.cons (.bv rfl) .nil)) rfl w

def ctrShift : CtrF
  | [p, .int .i64 _ n, .bool true true, x], _ => match asW p, asN x with
    | some p, some x => some (wA (p <<< n.toNat), [decide (0 ≤ n ∧ n < 256), x == 0#64])
    | _, _ => none
  | [p, .int .i64 _ n, .bool true false, x], _ => match asW p, asN x with
    | some p, some x => some (wA (downW p n.toNat (x.getLsbD 0)), [decide (0 ≤ n ∧ n < 256), x == inAll (x.getLsbD 0)])
    | _, _ => none
  | _, _ => none
theorem ctrShift_ok {R : Rws} : Good Tryd.prog R 54 ctrShift := by
  refine ⟨enters_of Tryd.func54 (by kernel_rfl) rfl, fun args H v cs hv hcs => ?_⟩
  unfold ctrShift at hv
  split at hv
  all_goals first
    | (cases hv; done)
    | (split at hv
       · rename_i p x hp hx
         cases hv
         have h1 := of_decide_eq_true (hcs _ (List.mem_cons_self ..))
         have h2 := hcs _ (List.mem_cons_of_mem _ (List.mem_cons_self ..))
         refine ⟨_, told_wA _, fun Hr Args ha _ _ w _ => ?_⟩
         cases ha with | cons a1 ha => cases ha with | cons a2 ha => cases ha with | cons a3 ha => cases ha with | cons a4 ha =>
         cases ha
         cases a2; cases a3
         rw [asW_rel hp a1, asN_rel hx a4]
         first
           | exact down_any _ _ _ h1 _ (eq_of_beq h2) w
           | (rw [show x = 0#64 from eq_of_beq h2]; exact up_any _ _ h1 w)
       · cases hv)
def ctrSmall : CtrF
  | [a, b], _ => match asW a, asN b with
    | some a, some b => some (.tuple [.int .i64 false (smI a b), .bool false (smB a b)], [decide (b.toNat ≤ 256)])
    | _, _ => none
  | _, _ => none
theorem ctrSmall_ok {R : Rws} : Good Tryd.prog R 37 ctrSmall := by
  refine ⟨enters_of Tryd.func37 (by kernel_rfl) rfl, fun args H v cs hv hcs => ?_⟩
  unfold ctrSmall at hv
  split at hv
  · split at hv
    · rename_i p x hp hx
      cases hv
      have h1 := of_decide_eq_true (hcs _ (List.mem_cons_self ..))
      refine ⟨_, rfl, fun Hr Args ha _ _ w _ => ?_⟩
      cases ha with | cons a1 ha => cases ha with | cons a2 ha =>
      cases ha
      rw [asW_rel hp a1, asN_rel hx a2]
      exact small_any _ _ h1 w
    · cases hv
  · cases hv
end

section
def ctrOf : CtrF
  | [x], _ => match asN x with
    | some x => some (wA (BitVec.ofNat 256 x.toNat), [])
    | none => match asI .u64 x with
      | some n => some (wA (BitVec.ofInt 256 n), [decide (0 ≤ n ∧ n < 18446744073709551616)])
      | none => none
  | _, _ => none
theorem ctrOf_ok {R : Rws} {f : FuncId} (hen : Enters Tryd.prog f) (h : ∀ (n : Nat) w, n < 18446744073709551616 → Calls Tryd.prog f #[.int .u64 (n : Int)] w fun e w' => e = .returned (W (BitVec.ofNat 256 n)) ∧ Below w.heap.size w w') : Good Tryd.prog R f ctrOf := by
  refine ⟨hen, fun args H v cs hv hcs => ?_⟩
  unfold ctrOf at hv
  split at hv
  · split at hv
    · rename_i x hx
      cases hv
      refine ⟨_, told_wA _, fun Hr Args ha _ _ w _ => ?_⟩
      cases ha with | cons a1 ha =>
      cases ha
      rw [asN_rel hx a1]
      exact h _ w x.isLt
    · split at hv
      · rename_i n hn
        cases hv
        have h1 := of_decide_eq_true (hcs _ (List.mem_cons_self ..))
        refine ⟨_, told_wA _, fun Hr Args ha _ _ w _ => ?_⟩
        cases ha with | cons a1 ha =>
        cases ha
        rw [asI_rel hn a1]
        obtain ⟨m, rfl⟩ := Int.eq_ofNat_of_zero_le h1.1
        rw [BitVec.ofInt_natCast]
        exact h m w (by omega)
      · cases hv
  · cases hv
theorem wordOf_0 (x : BitVec 64) : Is (evCall (mkEnv noRows []) 60 39 [b64 x] ⟨[], [], allW⟩ (fun v _ => v = .agg [b64 x, .int .u64 true 0, .int .u64 true 0, .int .u64 true 0])) := ev_eq [] (.agg [b64 x, .int .u64 true 0, .int .u64 true 0, .int .u64 true 0] : AV) (by kernel_rfl) trivial
theorem wordOfW (n : Nat) (w : World) (hn : n < 18446744073709551616) : Calls Tryd.prog 39 #[.int .u64 (n : Int)] w fun e w' => e = .returned (W (BitVec.ofNat 256 n)) ∧ Below w.heap.size w w' := by
  have hx : ((BitVec.ofNat 64 n).toNat : Int) = n := by rw [BitVec.toNat_ofNat]; omega
  have hV : (AV.agg [b64 (BitVec.ofNat 64 n), .int .u64 true 0, .int .u64 true 0, .int .u64 true 0]).told? = some (W (BitVec.ofNat 256 n)) := by
    have h := L_small hn
    unfold W
    rw [h.1, h.2.1, h.2.2.1, h.2.2.2]
    show some (Value.agg #[.int .u64 ((BitVec.ofNat 64 n).toNat : Int), .int .u64 0, .int .u64 0, .int .u64 0]) = _
    rw [hx]
  exact ev_callsI E0_ok 60 (wordOf_0 (BitVec.ofNat 64 n)) hV (Args := [.int .u64 (n : Int)]) (.cons (by rw [← hx]; exact .bv rfl) .nil) rfl w
noncomputable def tabB : List (Nat × CtrF) := [(37, ctrSmall),
  (54, ctrShift),
  (39, ctrOf),
  (28, ctrOf),
  (35, ctrT asW (fun (x : BitVec 256) => .bool false (x.getLsbD 255))),
  (13, ctrT asW (fun (x : BitVec 256) => .bool false (x.getLsbD 255)))]
theorem tabB_ok {R : Rws} : ∀ p ∈ tabB, Good Tryd.prog R p.1 p.2 := by
  have h0 : Good Tryd.prog R 37 ( ctrSmall) := ctrSmall_ok
  have h1 : Good Tryd.prog R 54 ( ctrShift) := ctrShift_ok
  have h2 : Good Tryd.prog R 39 ( ctrOf) := ctrOf_ok (enters_of Tryd.func39 (by kernel_rfl) rfl) wordOfW
  have h3 : Good Tryd.prog R 28 ( ctrOf) := ctrOf_ok (enters_of Tryd.func28 (by kernel_rfl) rfl) (fun n w h => refOfW n h w)
  have h4 : Good Tryd.prog R 35 ( ctrT asW (fun (x : BitVec 256) => .bool false (x.getLsbD 255))) := ctrT_ok (enc := W) (V := fun (x : BitVec 256) => .bool (x.getLsbD 255)) (fun h => asW_rel h) (enters_of Tryd.func35 (by kernel_rfl) rfl) (fun _ => rfl) (fun x w => negW x w)
  have h5 : Good Tryd.prog R 13 ( ctrT asW (fun (x : BitVec 256) => .bool false (x.getLsbD 255))) := ctrT_ok (enc := W) (V := fun (x : BitVec 256) => .bool (x.getLsbD 255)) (fun h => asW_rel h) (enters_of Tryd.func13 (by kernel_rfl) rfl) (fun _ => rfl) (fun x w => refNegW x w)
  exact good_cons (p := (_, _)) h0 (good_cons (p := (_, _)) h1 (good_cons (p := (_, _)) h2 (good_cons (p := (_, _)) h3 (good_cons (p := (_, _)) h4 (good_cons (p := (_, _)) h5 (good_nil))))))
theorem EB_ok {R : Rws} (hR : RwOK R) : EnvOK (mkEnv R tabB) := mkEnv_ok hR tabB_ok
/-- Words that are shifted. -/
def shlW (b a : BitVec 256) : BitVec 256 := if b.toNat < 256 then a <<< b.toNat else 0#256
def shrW (b a : BitVec 256) : BitVec 256 := if b.toNat < 256 then downW a b.toNat false else 0#256
def sarW (b a : BitVec 256) : BitVec 256 := if b.toNat < 256 then downW a b.toNat (a.getLsbD 255) else if a.getLsbD 255 then BitVec.allOnes 256 else 0#256
theorem n256 : (BitVec.ofInt 64 256 : BitVec 64).toNat = 256 := by decide
theorem smB_256 (b : BitVec 256) : smB b (BitVec.ofInt 64 256) = decide (b.toNat < 256) := by unfold smB; rw [n256]
theorem smI_256 {b : BitVec 256} (h : b.toNat < 256) : smI b (BitVec.ofInt 64 256) = (b.toNat : Int) := by unfold smI; rw [if_pos (by omega), n256]; omega
theorem W_zero4 : Value.agg #[.int .u64 0, .int .u64 0, .int .u64 0, .int .u64 0] = W 0#256 := by rw [← re_eq 0#256]; rw [W_mkW]; rfl
theorem W_ones4 : Value.agg #[.int .u64 18446744073709551615, .int .u64 18446744073709551615, .int .u64 18446744073709551615, .int .u64 18446744073709551615] = W (BitVec.allOnes 256) := by rw [← re_eq (BitVec.allOnes 256)]; rw [W_mkW]; rfl
end

section
noncomputable def shl_r0 (b a : BitVec 256) : AV := AV.agg [AV.int IntKind.u64 true 0, AV.int IntKind.u64 true 0, AV.int IntKind.u64 true 0, AV.int IntKind.u64 true 0]
theorem shl_0 (b a : BitVec 256) (h : AllE [(true, true), (!smB (re b) (BitVec.ofInt 64 256), true)]) : Is (evCall (mkEnv noRows tabB) 60 8 [wA b, wA a] ⟨[], [true], allW⟩ (fun v _ => v = shl_r0 b a)) := ev_eq [(true, true), (!smB (re b) (BitVec.ofInt 64 256), true)] (shl_r0 b a) (by kernel_rfl) h
noncomputable def shl_r1 (b a : BitVec 256) : AV := wA (re a <<< Int.toNat (smI (re b) (BitVec.ofInt 64 256)))
theorem shl_1 (b a : BitVec 256) (h : AllE [(true, true), (!smB (re b) (BitVec.ofInt 64 256), false), (decide (0 ≤ smI (re b) (BitVec.ofInt 64 256) ∧ smI (re b) (BitVec.ofInt 64 256) < 256), true), (true, true)]) : Is (evCall (mkEnv noRows tabB) 60 8 [wA b, wA a] ⟨[], [false], allW⟩ (fun v _ => v = shl_r1 b a)) := ev_eq [(true, true), (!smB (re b) (BitVec.ofInt 64 256), false), (decide (0 ≤ smI (re b) (BitVec.ofInt 64 256) ∧ smI (re b) (BitVec.ofInt 64 256) < 256), true), (true, true)] (shl_r1 b a) (by kernel_rfl) h
theorem shl_any (b a : BitVec 256)  (w : World) : Calls Tryd.prog 8 #[W b, W a] w fun e w' => e = .returned (W (shlW b a)) ∧ Below w.heap.size w w' := by
  rcases h0 : (!smB (re b) (BitVec.ofInt 64 256)) with _ | _
  · have hb : b.toNat < 256 := by have hq := h0; rw [re_eq, smB_256] at hq; simpa using hq
    have hV : (shl_r1 b a).told? = some (W (shlW b a)) := congrArg some (by show _ = W (shlW b a); unfold shlW; rw [if_pos hb]; refine Eq.trans (W_limbs _).symm ?_; rw [re_eq, re_eq, smI_256 hb]; rfl)
    exact ev_callsI (EB_ok rwOK_no) 60 (shl_1 b a (allE_cons rfl (allE_cons h0 (allE_cons (decide_eq_true (by rw [re_eq, smI_256 hb]; omega)) (allE_cons rfl allE_nil))))) hV (.cons (rel_wA _ b) (.cons (rel_wA _ a) .nil)) rfl w
  · have hb : ¬ b.toNat < 256 := by have hq := h0; rw [re_eq, smB_256] at hq; simpa using hq
    have hV : (shl_r0 b a).told? = some (W (shlW b a)) := congrArg some (by show _ = W (shlW b a); unfold shlW; rw [if_neg hb]; exact W_zero4)
    exact ev_callsI (EB_ok rwOK_no) 60 (shl_0 b a (allE_cons rfl (allE_cons h0 allE_nil))) hV (.cons (rel_wA _ b) (.cons (rel_wA _ a) .nil)) rfl w
noncomputable def shr_r0 (b a : BitVec 256) : AV := AV.agg [AV.int IntKind.u64 true 0, AV.int IntKind.u64 true 0, AV.int IntKind.u64 true 0, AV.int IntKind.u64 true 0]
theorem shr_0 (b a : BitVec 256) (h : AllE [(true, true), (!smB (re b) (BitVec.ofInt 64 256), true)]) : Is (evCall (mkEnv noRows tabB) 60 10 [wA b, wA a] ⟨[], [true], allW⟩ (fun v _ => v = shr_r0 b a)) := ev_eq [(true, true), (!smB (re b) (BitVec.ofInt 64 256), true)] (shr_r0 b a) (by kernel_rfl) h
noncomputable def shr_r1 (b a : BitVec 256) : AV := wA (downW (re a) (Int.toNat (smI (re b) (BitVec.ofInt 64 256))) (BitVec.getLsbD (BitVec.ofInt 64 0) 0))
theorem shr_1 (b a : BitVec 256) (h : AllE [(true, true), (!smB (re b) (BitVec.ofInt 64 256), false), (decide (0 ≤ smI (re b) (BitVec.ofInt 64 256) ∧ smI (re b) (BitVec.ofInt 64 256) < 256), true), (true, true)]) : Is (evCall (mkEnv noRows tabB) 60 10 [wA b, wA a] ⟨[], [false], allW⟩ (fun v _ => v = shr_r1 b a)) := ev_eq [(true, true), (!smB (re b) (BitVec.ofInt 64 256), false), (decide (0 ≤ smI (re b) (BitVec.ofInt 64 256) ∧ smI (re b) (BitVec.ofInt 64 256) < 256), true), (true, true)] (shr_r1 b a) (by kernel_rfl) h
theorem shr_any (b a : BitVec 256)  (w : World) : Calls Tryd.prog 10 #[W b, W a] w fun e w' => e = .returned (W (shrW b a)) ∧ Below w.heap.size w w' := by
  rcases h0 : (!smB (re b) (BitVec.ofInt 64 256)) with _ | _
  · have hb : b.toNat < 256 := by have hq := h0; rw [re_eq, smB_256] at hq; simpa using hq
    have hV : (shr_r1 b a).told? = some (W (shrW b a)) := congrArg some (by show _ = W (shrW b a); unfold shrW; rw [if_pos hb]; refine Eq.trans (W_limbs _).symm ?_; rw [re_eq, re_eq, smI_256 hb]; rfl)
    exact ev_callsI (EB_ok rwOK_no) 60 (shr_1 b a (allE_cons rfl (allE_cons h0 (allE_cons (decide_eq_true (by rw [re_eq, smI_256 hb]; omega)) (allE_cons rfl allE_nil))))) hV (.cons (rel_wA _ b) (.cons (rel_wA _ a) .nil)) rfl w
  · have hb : ¬ b.toNat < 256 := by have hq := h0; rw [re_eq, smB_256] at hq; simpa using hq
    have hV : (shr_r0 b a).told? = some (W (shrW b a)) := congrArg some (by show _ = W (shrW b a); unfold shrW; rw [if_neg hb]; exact W_zero4)
    exact ev_callsI (EB_ok rwOK_no) 60 (shr_0 b a (allE_cons rfl (allE_cons h0 allE_nil))) hV (.cons (rel_wA _ b) (.cons (rel_wA _ a) .nil)) rfl w
noncomputable def sar_r0 (b a : BitVec 256) : AV := AV.agg [AV.int IntKind.u64 true 18446744073709551615, AV.int IntKind.u64 true 18446744073709551615, AV.int IntKind.u64 true 18446744073709551615, AV.int IntKind.u64 true 18446744073709551615]
theorem sar_0 (b a : BitVec 256) (h : AllE [(BitVec.getLsbD (re a) 255, true), (true, true), (!smB (re b) (BitVec.ofInt 64 256), true)]) : Is (evCall (mkEnv noRows tabB) 60 12 [wA b, wA a] ⟨[], [true, true], allW⟩ (fun v _ => v = sar_r0 b a)) := ev_eq [(BitVec.getLsbD (re a) 255, true), (true, true), (!smB (re b) (BitVec.ofInt 64 256), true)] (sar_r0 b a) (by kernel_rfl) h
noncomputable def sar_r1 (b a : BitVec 256) : AV := wA (downW (re a) (Int.toNat (smI (re b) (BitVec.ofInt 64 256))) (BitVec.getLsbD (BitVec.ofInt 64 (bits BinOp.xor IntKind.u64 (if IntKind.signed IntKind.u64 = true then -1 else IntKind.max IntKind.u64) 0)) 0))
theorem sar_1 (b a : BitVec 256) (h : AllE [(BitVec.getLsbD (re a) 255, true), (true, true), (!smB (re b) (BitVec.ofInt 64 256), false), (decide (0 ≤ smI (re b) (BitVec.ofInt 64 256) ∧ smI (re b) (BitVec.ofInt 64 256) < 256), true), (true, true)]) : Is (evCall (mkEnv noRows tabB) 60 12 [wA b, wA a] ⟨[], [true, false], allW⟩ (fun v _ => v = sar_r1 b a)) := ev_eq [(BitVec.getLsbD (re a) 255, true), (true, true), (!smB (re b) (BitVec.ofInt 64 256), false), (decide (0 ≤ smI (re b) (BitVec.ofInt 64 256) ∧ smI (re b) (BitVec.ofInt 64 256) < 256), true), (true, true)] (sar_r1 b a) (by kernel_rfl) h
noncomputable def sar_r2 (b a : BitVec 256) : AV := AV.agg [AV.int IntKind.u64 true 0, AV.int IntKind.u64 true 0, AV.int IntKind.u64 true 0, AV.int IntKind.u64 true 0]
theorem sar_2 (b a : BitVec 256) (h : AllE [(BitVec.getLsbD (re a) 255, false), (true, true), (!smB (re b) (BitVec.ofInt 64 256), true)]) : Is (evCall (mkEnv noRows tabB) 60 12 [wA b, wA a] ⟨[], [false, true], allW⟩ (fun v _ => v = sar_r2 b a)) := ev_eq [(BitVec.getLsbD (re a) 255, false), (true, true), (!smB (re b) (BitVec.ofInt 64 256), true)] (sar_r2 b a) (by kernel_rfl) h
noncomputable def sar_r3 (b a : BitVec 256) : AV := wA (downW (re a) (Int.toNat (smI (re b) (BitVec.ofInt 64 256))) (BitVec.getLsbD (BitVec.ofInt 64 0) 0))
theorem sar_3 (b a : BitVec 256) (h : AllE [(BitVec.getLsbD (re a) 255, false), (true, true), (!smB (re b) (BitVec.ofInt 64 256), false), (decide (0 ≤ smI (re b) (BitVec.ofInt 64 256) ∧ smI (re b) (BitVec.ofInt 64 256) < 256), true), (true, true)]) : Is (evCall (mkEnv noRows tabB) 60 12 [wA b, wA a] ⟨[], [false, false], allW⟩ (fun v _ => v = sar_r3 b a)) := ev_eq [(BitVec.getLsbD (re a) 255, false), (true, true), (!smB (re b) (BitVec.ofInt 64 256), false), (decide (0 ≤ smI (re b) (BitVec.ofInt 64 256) ∧ smI (re b) (BitVec.ofInt 64 256) < 256), true), (true, true)] (sar_r3 b a) (by kernel_rfl) h
theorem sar_any (b a : BitVec 256)  (w : World) : Calls Tryd.prog 12 #[W b, W a] w fun e w' => e = .returned (W (sarW b a)) ∧ Below w.heap.size w w' := by
  rcases h0 : (BitVec.getLsbD (re a) 255) with _ | _
  · rcases h1 : (!smB (re b) (BitVec.ofInt 64 256)) with _ | _
    · have hb : b.toNat < 256 := by have hq := h1; rw [re_eq, smB_256] at hq; simpa using hq
      have hV : (sar_r3 b a).told? = some (W (sarW b a)) := congrArg some (by show _ = W (sarW b a); unfold sarW; have hs := h0; rw [re_eq] at hs; rw [hs]; rw [if_pos hb]; refine Eq.trans (W_limbs _).symm ?_; rw [re_eq, re_eq, smI_256 hb]; rfl)
      exact ev_callsI (EB_ok rwOK_no) 60 (sar_3 b a (allE_cons h0 (allE_cons rfl (allE_cons h1 (allE_cons (decide_eq_true (by rw [re_eq, smI_256 hb]; omega)) (allE_cons rfl allE_nil)))))) hV (.cons (rel_wA _ b) (.cons (rel_wA _ a) .nil)) rfl w
    · have hb : ¬ b.toNat < 256 := by have hq := h1; rw [re_eq, smB_256] at hq; simpa using hq
      have hV : (sar_r2 b a).told? = some (W (sarW b a)) := congrArg some (by show _ = W (sarW b a); unfold sarW; have hs := h0; rw [re_eq] at hs; rw [hs]; rw [if_neg hb]; exact W_zero4)
      exact ev_callsI (EB_ok rwOK_no) 60 (sar_2 b a (allE_cons h0 (allE_cons rfl (allE_cons h1 allE_nil)))) hV (.cons (rel_wA _ b) (.cons (rel_wA _ a) .nil)) rfl w
  · rcases h1 : (!smB (re b) (BitVec.ofInt 64 256)) with _ | _
    · have hb : b.toNat < 256 := by have hq := h1; rw [re_eq, smB_256] at hq; simpa using hq
      have hV : (sar_r1 b a).told? = some (W (sarW b a)) := congrArg some (by show _ = W (sarW b a); unfold sarW; have hs := h0; rw [re_eq] at hs; rw [hs]; rw [if_pos hb]; refine Eq.trans (W_limbs _).symm ?_; rw [re_eq, re_eq, smI_256 hb]; rfl)
      exact ev_callsI (EB_ok rwOK_no) 60 (sar_1 b a (allE_cons h0 (allE_cons rfl (allE_cons h1 (allE_cons (decide_eq_true (by rw [re_eq, smI_256 hb]; omega)) (allE_cons rfl allE_nil)))))) hV (.cons (rel_wA _ b) (.cons (rel_wA _ a) .nil)) rfl w
    · have hb : ¬ b.toNat < 256 := by have hq := h1; rw [re_eq, smB_256] at hq; simpa using hq
      have hV : (sar_r0 b a).told? = some (W (sarW b a)) := congrArg some (by show _ = W (sarW b a); unfold sarW; have hs := h0; rw [re_eq] at hs; rw [hs]; rw [if_neg hb]; exact W_ones4)
      exact ev_callsI (EB_ok rwOK_no) 60 (sar_0 b a (allE_cons h0 (allE_cons rfl (allE_cons h1 allE_nil)))) hV (.cons (rel_wA _ b) (.cons (rel_wA _ a) .nil)) rfl w
end

section
noncomputable def tabE : List (Nat × CtrF) := [(8, ctrTT asW asW (fun (x : BitVec 256) (y : BitVec 256) => wA (shlW x y))),
  (10, ctrTT asW asW (fun (x : BitVec 256) (y : BitVec 256) => wA (shrW x y))),
  (12, ctrTT asW asW (fun (x : BitVec 256) (y : BitVec 256) => wA (sarW x y)))] ++ tabB
theorem tabE_ok {R : Rws} : ∀ p ∈ tabE, Good Tryd.prog R p.1 p.2 := by
  have h0 : Good Tryd.prog R 8 ( ctrTT asW asW (fun (x : BitVec 256) (y : BitVec 256) => wA (shlW x y))) := ctrTT_ok (ea := W) (eb := W) (V := fun (x : BitVec 256) (y : BitVec 256) => W (shlW x y)) (fun h => asW_rel h) (fun h => asW_rel h) (enters_of Tryd.func8 (by kernel_rfl) rfl) (fun _ _ => told_wA _) (fun x y w => shl_any x y w)
  have h1 : Good Tryd.prog R 10 ( ctrTT asW asW (fun (x : BitVec 256) (y : BitVec 256) => wA (shrW x y))) := ctrTT_ok (ea := W) (eb := W) (V := fun (x : BitVec 256) (y : BitVec 256) => W (shrW x y)) (fun h => asW_rel h) (fun h => asW_rel h) (enters_of Tryd.func10 (by kernel_rfl) rfl) (fun _ _ => told_wA _) (fun x y w => shr_any x y w)
  have h2 : Good Tryd.prog R 12 ( ctrTT asW asW (fun (x : BitVec 256) (y : BitVec 256) => wA (sarW x y))) := ctrTT_ok (ea := W) (eb := W) (V := fun (x : BitVec 256) (y : BitVec 256) => W (sarW x y)) (fun h => asW_rel h) (fun h => asW_rel h) (enters_of Tryd.func12 (by kernel_rfl) rfl) (fun _ _ => told_wA _) (fun x y w => sar_any x y w)
  exact good_cons (p := (_, _)) h0 (good_cons (p := (_, _)) h1 (good_cons (p := (_, _)) h2 (tabB_ok)))
theorem EE_ok {R : Rws} (hR : RwOK R) : EnvOK (mkEnv R tabE) := mkEnv_ok hR tabE_ok
theorem smB_31 (b : BitVec 256) : smB b (BitVec.ofInt 64 31) = decide (b.toNat < 31) := by unfold smB; rw [show (BitVec.ofInt 64 31 : BitVec 64).toNat = 31 by decide]
theorem smI_31 {b : BitVec 256} (h : b.toNat < 31) : smI b (BitVec.ofInt 64 31) = (b.toNat : Int) := by unfold smI; rw [if_pos (by omega), show (BitVec.ofInt 64 31 : BitVec 64).toNat = 31 by decide]; omega
/-- A sign that is extended. -/
def extW (b a : BitVec 256) : BitVec 256 := if b.toNat < 31 then sarW (BitVec.ofNat 256 (248 - 8 * b.toNat)) (shlW (BitVec.ofNat 256 (248 - 8 * b.toNat)) a) else a
/-- How many bits a number has. -/
def lenN (n : Nat) : Nat := if n = 0 then 0 else Nat.log2 n + 1
theorem lenN_div {n k : Nat} (h : 2 ^ k ≤ n) : lenN n = k + lenN (n / 2 ^ k) := by
  have hp := Nat.two_pow_pos k
  have h1 : 0 < n / 2 ^ k := Nat.div_pos h hp
  unfold lenN
  rw [if_neg (by omega), if_neg (by omega)]
  have : n.log2 = k + (n / 2 ^ k).log2 := by
    apply (Nat.log2_eq_iff (by omega)).2
    have h2 := (Nat.log2_eq_iff (n := n / 2 ^ k) (k := (n / 2 ^ k).log2) (by omega)).1 rfl
    rw [Nat.pow_add, Nat.pow_succ, Nat.pow_add, Nat.mul_assoc, ← Nat.pow_succ]
    constructor
    · calc 2 ^ k * 2 ^ (n / 2 ^ k).log2 ≤ 2 ^ k * (n / 2 ^ k) := Nat.mul_le_mul_left _ h2.1
        _ ≤ n := Nat.mul_div_le _ _
    · calc n < 2 ^ k * (n / 2 ^ k + 1) := Nat.lt_mul_div_succ _ hp
        _ ≤ 2 ^ k * 2 ^ ((n / 2 ^ k).log2 + 1) := Nat.mul_le_mul_left _ h2.2
  omega
theorem ble_dec (m n : Nat) : Nat.ble m n = decide (m ≤ n) := by rw [Bool.eq_iff_iff, Nat.ble_eq, decide_eq_true_eq]
/-- A number, but 256 at most. -/
def byI (n : BitVec 256) : Int := if n.toNat ≤ 256 then (n.toNat : Int) else 256
theorem ne0_test (y : BitVec 64) : (y != BitVec.ofInt 64 0) = decide (y.toNat ≠ 0) := by
  rw [Bool.eq_iff_iff, bne_iff_ne, decide_eq_true_eq, show BitVec.ofInt 64 0 = 0#64 from rfl]
  exact not_congr ⟨fun h => by rw [h]; rfl, fun h => BitVec.eq_of_toNat_eq h⟩
theorem not_limb (x : BitVec 256) (q : Nat) (hq : q < 4) : ~~~ limb x q = limb (~~~ x) q := by
  apply BitVec.eq_of_getLsbD_eq
  intro r hr
  rw [limb_bit, BitVec.getLsbD_not, BitVec.getLsbD_not, limb_bit, decide_eq_true hr, decide_eq_true (show 64 * q + r < 256 by omega)]
  rfl
end

section
noncomputable def ext_r0 (b a : BitVec 256) : AV := wA a
theorem ext_0 (b a : BitVec 256) (h : AllE [(true, true), (!smB (re b) (BitVec.ofInt 64 31), true)]) : Is (evCall (mkEnv noRows tabE) 60 17 [wA b, wA a] ⟨[], [true], allW⟩ (fun v _ => v = ext_r0 b a)) := ev_eq [(true, true), (!smB (re b) (BitVec.ofInt 64 31), true)] (ext_r0 b a) (by kernel_rfl) h
noncomputable def ext_r1 (b a : BitVec 256) : AV := wA (sarW (mkW (limb (BitVec.ofInt 256 (IntKind.wrap IntKind.u64 (IntKind.wrap IntKind.i64 (IntKind.wrap IntKind.i64 (256 - IntKind.wrap IntKind.i64 (8 * smI (re b) (BitVec.ofInt 64 31))) - 8)))) 0) (limb (BitVec.ofInt 256 (IntKind.wrap IntKind.u64 (IntKind.wrap IntKind.i64 (IntKind.wrap IntKind.i64 (256 - IntKind.wrap IntKind.i64 (8 * smI (re b) (BitVec.ofInt 64 31))) - 8)))) 1) (limb (BitVec.ofInt 256 (IntKind.wrap IntKind.u64 (IntKind.wrap IntKind.i64 (IntKind.wrap IntKind.i64 (256 - IntKind.wrap IntKind.i64 (8 * smI (re b) (BitVec.ofInt 64 31))) - 8)))) 2) (limb (BitVec.ofInt 256 (IntKind.wrap IntKind.u64 (IntKind.wrap IntKind.i64 (IntKind.wrap IntKind.i64 (256 - IntKind.wrap IntKind.i64 (8 * smI (re b) (BitVec.ofInt 64 31))) - 8)))) 3)) (mkW (limb (shlW (mkW (limb (BitVec.ofInt 256 (IntKind.wrap IntKind.u64 (IntKind.wrap IntKind.i64 (IntKind.wrap IntKind.i64 (256 - IntKind.wrap IntKind.i64 (8 * smI (re b) (BitVec.ofInt 64 31))) - 8)))) 0) (limb (BitVec.ofInt 256 (IntKind.wrap IntKind.u64 (IntKind.wrap IntKind.i64 (IntKind.wrap IntKind.i64 (256 - IntKind.wrap IntKind.i64 (8 * smI (re b) (BitVec.ofInt 64 31))) - 8)))) 1) (limb (BitVec.ofInt 256 (IntKind.wrap IntKind.u64 (IntKind.wrap IntKind.i64 (IntKind.wrap IntKind.i64 (256 - IntKind.wrap IntKind.i64 (8 * smI (re b) (BitVec.ofInt 64 31))) - 8)))) 2) (limb (BitVec.ofInt 256 (IntKind.wrap IntKind.u64 (IntKind.wrap IntKind.i64 (IntKind.wrap IntKind.i64 (256 - IntKind.wrap IntKind.i64 (8 * smI (re b) (BitVec.ofInt 64 31))) - 8)))) 3)) (re a)) 0) (limb (shlW (mkW (limb (BitVec.ofInt 256 (IntKind.wrap IntKind.u64 (IntKind.wrap IntKind.i64 (IntKind.wrap IntKind.i64 (256 - IntKind.wrap IntKind.i64 (8 * smI (re b) (BitVec.ofInt 64 31))) - 8)))) 0) (limb (BitVec.ofInt 256 (IntKind.wrap IntKind.u64 (IntKind.wrap IntKind.i64 (IntKind.wrap IntKind.i64 (256 - IntKind.wrap IntKind.i64 (8 * smI (re b) (BitVec.ofInt 64 31))) - 8)))) 1) (limb (BitVec.ofInt 256 (IntKind.wrap IntKind.u64 (IntKind.wrap IntKind.i64 (IntKind.wrap IntKind.i64 (256 - IntKind.wrap IntKind.i64 (8 * smI (re b) (BitVec.ofInt 64 31))) - 8)))) 2) (limb (BitVec.ofInt 256 (IntKind.wrap IntKind.u64 (IntKind.wrap IntKind.i64 (IntKind.wrap IntKind.i64 (256 - IntKind.wrap IntKind.i64 (8 * smI (re b) (BitVec.ofInt 64 31))) - 8)))) 3)) (re a)) 1) (limb (shlW (mkW (limb (BitVec.ofInt 256 (IntKind.wrap IntKind.u64 (IntKind.wrap IntKind.i64 (IntKind.wrap IntKind.i64 (256 - IntKind.wrap IntKind.i64 (8 * smI (re b) (BitVec.ofInt 64 31))) - 8)))) 0) (limb (BitVec.ofInt 256 (IntKind.wrap IntKind.u64 (IntKind.wrap IntKind.i64 (IntKind.wrap IntKind.i64 (256 - IntKind.wrap IntKind.i64 (8 * smI (re b) (BitVec.ofInt 64 31))) - 8)))) 1) (limb (BitVec.ofInt 256 (IntKind.wrap IntKind.u64 (IntKind.wrap IntKind.i64 (IntKind.wrap IntKind.i64 (256 - IntKind.wrap IntKind.i64 (8 * smI (re b) (BitVec.ofInt 64 31))) - 8)))) 2) (limb (BitVec.ofInt 256 (IntKind.wrap IntKind.u64 (IntKind.wrap IntKind.i64 (IntKind.wrap IntKind.i64 (256 - IntKind.wrap IntKind.i64 (8 * smI (re b) (BitVec.ofInt 64 31))) - 8)))) 3)) (re a)) 2) (limb (shlW (mkW (limb (BitVec.ofInt 256 (IntKind.wrap IntKind.u64 (IntKind.wrap IntKind.i64 (IntKind.wrap IntKind.i64 (256 - IntKind.wrap IntKind.i64 (8 * smI (re b) (BitVec.ofInt 64 31))) - 8)))) 0) (limb (BitVec.ofInt 256 (IntKind.wrap IntKind.u64 (IntKind.wrap IntKind.i64 (IntKind.wrap IntKind.i64 (256 - IntKind.wrap IntKind.i64 (8 * smI (re b) (BitVec.ofInt 64 31))) - 8)))) 1) (limb (BitVec.ofInt 256 (IntKind.wrap IntKind.u64 (IntKind.wrap IntKind.i64 (IntKind.wrap IntKind.i64 (256 - IntKind.wrap IntKind.i64 (8 * smI (re b) (BitVec.ofInt 64 31))) - 8)))) 2) (limb (BitVec.ofInt 256 (IntKind.wrap IntKind.u64 (IntKind.wrap IntKind.i64 (IntKind.wrap IntKind.i64 (256 - IntKind.wrap IntKind.i64 (8 * smI (re b) (BitVec.ofInt 64 31))) - 8)))) 3)) (re a)) 3)))
theorem ext_1 (b a : BitVec 256) (h : AllE [(true, true), (!smB (re b) (BitVec.ofInt 64 31), false), (decide (0 ≤ IntKind.wrap IntKind.u64 (IntKind.wrap IntKind.i64 (IntKind.wrap IntKind.i64 (256 - IntKind.wrap IntKind.i64 (8 * smI (re b) (BitVec.ofInt 64 31))) - 8)) ∧ IntKind.wrap IntKind.u64 (IntKind.wrap IntKind.i64 (IntKind.wrap IntKind.i64 (256 - IntKind.wrap IntKind.i64 (8 * smI (re b) (BitVec.ofInt 64 31))) - 8)) < 18446744073709551616), true)]) : Is (evCall (mkEnv noRows tabE) 60 17 [wA b, wA a] ⟨[], [false], allW⟩ (fun v _ => v = ext_r1 b a)) := ev_eq [(true, true), (!smB (re b) (BitVec.ofInt 64 31), false), (decide (0 ≤ IntKind.wrap IntKind.u64 (IntKind.wrap IntKind.i64 (IntKind.wrap IntKind.i64 (256 - IntKind.wrap IntKind.i64 (8 * smI (re b) (BitVec.ofInt 64 31))) - 8)) ∧ IntKind.wrap IntKind.u64 (IntKind.wrap IntKind.i64 (IntKind.wrap IntKind.i64 (256 - IntKind.wrap IntKind.i64 (8 * smI (re b) (BitVec.ofInt 64 31))) - 8)) < 18446744073709551616), true)] (ext_r1 b a) (by kernel_rfl) h
theorem ext_any (b a : BitVec 256)  (w : World) : Calls Tryd.prog 17 #[W b, W a] w fun e w' => e = .returned (W (extW b a)) ∧ Below w.heap.size w w' := by
  rcases h0 : (!smB (re b) (BitVec.ofInt 64 31)) with _ | _
  · have hb : b.toNat < 31 := by have hq := h0; rw [re_eq, smB_31] at hq; simpa using hq
    have hw : IntKind.wrap IntKind.u64 (IntKind.wrap IntKind.i64 (IntKind.wrap IntKind.i64 (256 - IntKind.wrap IntKind.i64 (8 * (b.toNat : Int))) - 8)) = ((248 - 8 * b.toNat : Nat) : Int) := by rw [IntKind.wrap_i64, IntKind.wrap_i64, IntKind.wrap_i64, IntWalk.u64_in _ (by omega)]; omega
    have hV : (ext_r1 b a).told? = some (W (extW b a)) := congrArg some (by show _ = W (extW b a); unfold extW; rw [if_pos hb]; refine Eq.trans (W_limbs _).symm ?_; simp only [re_eq]; rw [smI_31 hb, hw, BitVec.ofInt_natCast])
    exact ev_callsI (EE_ok rwOK_no) 60 (ext_1 b a (allE_cons rfl (allE_cons h0 (allE_cons (decide_eq_true (by rw [re_eq, smI_31 hb, hw]; omega)) allE_nil)))) hV (.cons (rel_wA _ b) (.cons (rel_wA _ a) .nil)) rfl w
  · have hb : ¬ b.toNat < 31 := by have hq := h0; rw [re_eq, smB_31] at hq; simpa using hq
    have hV : (ext_r0 b a).told? = some (W (extW b a)) := congrArg some (by show _ = W (extW b a); unfold extW; rw [if_neg hb]; exact (W_limbs _).symm)
    exact ev_callsI (EE_ok rwOK_no) 60 (ext_0 b a (allE_cons rfl (allE_cons h0 allE_nil))) hV (.cons (rel_wA _ b) (.cons (rel_wA _ a) .nil)) rfl w
noncomputable def not_r0 (a : BitVec 256) : AV := AV.agg [AV.bv IntKind.u64 (~~~limb a 0), AV.bv IntKind.u64 (~~~limb a 1), AV.bv IntKind.u64 (~~~limb a 2), AV.bv IntKind.u64 (~~~limb a 3)]
theorem not_0 (a : BitVec 256) : Is (evCall (mkEnv noRows tabE) 60 26 [wA a] ⟨[], [], allW⟩ (fun v _ => v = not_r0 a)) := ev_eq [] (not_r0 a) (by kernel_rfl) trivial
theorem not_any (a : BitVec 256)  (w : World) : Calls Tryd.prog 26 #[W a] w fun e w' => e = .returned (W (~~~ a)) ∧ Below w.heap.size w w' := by
  have hV : (not_r0 a).told? = some (W (~~~ a)) := congrArg some (by refine W_of_mkW (mkW_eq ?_ ?_ ?_ ?_) <;> exact not_limb _ _ (by decide))
  exact ev_callsI (EE_ok rwOK_no) 60 (not_0 a) hV (.cons (rel_wA _ a) .nil) rfl w
noncomputable def by_r0 (a : BitVec 256) : AV := AV.int IntKind.i64 true 256
theorem by_0 (a : BitVec 256) (h : AllE [(limb a 1 != BitVec.ofInt 64 0, true)]) : Is (evCall (mkEnv noRows []) 60 32 [wA a] ⟨[], [true], allW⟩ (fun v _ => v = by_r0 a)) := ev_eq [(limb a 1 != BitVec.ofInt 64 0, true)] (by_r0 a) (by kernel_rfl) h
noncomputable def by_r1 (a : BitVec 256) : AV := AV.int IntKind.i64 true 256
theorem by_1 (a : BitVec 256) (h : AllE [(limb a 1 != BitVec.ofInt 64 0, false), (limb a 2 != BitVec.ofInt 64 0, true)]) : Is (evCall (mkEnv noRows []) 60 32 [wA a] ⟨[], [false, true], allW⟩ (fun v _ => v = by_r1 a)) := ev_eq [(limb a 1 != BitVec.ofInt 64 0, false), (limb a 2 != BitVec.ofInt 64 0, true)] (by_r1 a) (by kernel_rfl) h
noncomputable def by_r2 (a : BitVec 256) : AV := AV.int IntKind.i64 true 256
theorem by_2 (a : BitVec 256) (h : AllE [(limb a 1 != BitVec.ofInt 64 0, false), (limb a 2 != BitVec.ofInt 64 0, false), (limb a 3 != BitVec.ofInt 64 0, true)]) : Is (evCall (mkEnv noRows []) 60 32 [wA a] ⟨[], [false, false, true], allW⟩ (fun v _ => v = by_r2 a)) := ev_eq [(limb a 1 != BitVec.ofInt 64 0, false), (limb a 2 != BitVec.ofInt 64 0, false), (limb a 3 != BitVec.ofInt 64 0, true)] (by_r2 a) (by kernel_rfl) h
noncomputable def by_r3 (a : BitVec 256) : AV := AV.int IntKind.i64 true 256
theorem by_3 (a : BitVec 256) (h : AllE [(limb a 1 != BitVec.ofInt 64 0, false), (limb a 2 != BitVec.ofInt 64 0, false), (limb a 3 != BitVec.ofInt 64 0, false), (Nat.blt (BitVec.toNat (BitVec.ofInt 64 256)) (BitVec.toNat (limb a 0)), true)]) : Is (evCall (mkEnv noRows []) 60 32 [wA a] ⟨[], [false, false, false, true], allW⟩ (fun v _ => v = by_r3 a)) := ev_eq [(limb a 1 != BitVec.ofInt 64 0, false), (limb a 2 != BitVec.ofInt 64 0, false), (limb a 3 != BitVec.ofInt 64 0, false), (Nat.blt (BitVec.toNat (BitVec.ofInt 64 256)) (BitVec.toNat (limb a 0)), true)] (by_r3 a) (by kernel_rfl) h
noncomputable def by_r4 (a : BitVec 256) : AV := AV.int IntKind.i64 false (IntKind.wrap IntKind.i64 (↑(BitVec.toNat (limb a 0)) : Int))
theorem by_4 (a : BitVec 256) (h : AllE [(limb a 1 != BitVec.ofInt 64 0, false), (limb a 2 != BitVec.ofInt 64 0, false), (limb a 3 != BitVec.ofInt 64 0, false), (Nat.blt (BitVec.toNat (BitVec.ofInt 64 256)) (BitVec.toNat (limb a 0)), false)]) : Is (evCall (mkEnv noRows []) 60 32 [wA a] ⟨[], [false, false, false, false], allW⟩ (fun v _ => v = by_r4 a)) := ev_eq [(limb a 1 != BitVec.ofInt 64 0, false), (limb a 2 != BitVec.ofInt 64 0, false), (limb a 3 != BitVec.ofInt 64 0, false), (Nat.blt (BitVec.toNat (BitVec.ofInt 64 256)) (BitVec.toNat (limb a 0)), false)] (by_r4 a) (by kernel_rfl) h
theorem by_any (a : BitVec 256)  (w : World) : Calls Tryd.prog 32 #[W a] w fun e w' => e = .returned (.int .i64 (byI a)) ∧ Below w.heap.size w w' := by
  rcases h0 : (limb a 1 != BitVec.ofInt 64 0) with _ | _
  · rcases h1 : (limb a 2 != BitVec.ofInt 64 0) with _ | _
    · rcases h2 : (limb a 3 != BitVec.ofInt 64 0) with _ | _
      · rcases h3 : (Nat.blt (BitVec.toNat (BitVec.ofInt 64 256)) (BitVec.toNat (limb a 0))) with _ | _
        · have hn := limb_nat a
          have g0 := (limb a 0).isLt
          have g1 : (limb a 1).toNat = 0 := by have hq := h0; rw [ne0_test] at hq; simpa using hq
          have g2 : (limb a 2).toNat = 0 := by have hq := h1; rw [ne0_test] at hq; simpa using hq
          have g3 : (limb a 3).toNat = 0 := by have hq := h2; rw [ne0_test] at hq; simpa using hq
          have g5 : ¬ 256 < (limb a 0).toNat := by have hq := h3; rw [blt_dec] at hq; simpa using hq
          have hV : (by_r4 a).told? = some (.int .i64 (byI a)) := congrArg some (by show Value.int .i64 (IntKind.wrap IntKind.i64 ((limb a 0).toNat : Int)) = .int .i64 (byI a); unfold byI; rw [if_pos (by omega), IntWalk.i64_in _ (by omega)]; congr 1; omega)
          exact ev_callsI E0_ok 60 (by_4 a (allE_cons h0 (allE_cons h1 (allE_cons h2 (allE_cons h3 allE_nil))))) hV (.cons (rel_wA _ a) .nil) rfl w
        · have hn := limb_nat a
          have g0 := (limb a 0).isLt
          have g1 : (limb a 1).toNat = 0 := by have hq := h0; rw [ne0_test] at hq; simpa using hq
          have g2 : (limb a 2).toNat = 0 := by have hq := h1; rw [ne0_test] at hq; simpa using hq
          have g3 : (limb a 3).toNat = 0 := by have hq := h2; rw [ne0_test] at hq; simpa using hq
          have g5 : 256 < (limb a 0).toNat := by have hq := h3; rw [blt_dec] at hq; simpa using hq
          have hV : (by_r3 a).told? = some (.int .i64 (byI a)) := congrArg some (by show Value.int .i64 256 = .int .i64 (byI a); unfold byI; split <;> first | omega | rfl | (congr 1; omega))
          exact ev_callsI E0_ok 60 (by_3 a (allE_cons h0 (allE_cons h1 (allE_cons h2 (allE_cons h3 allE_nil))))) hV (.cons (rel_wA _ a) .nil) rfl w
      · have hn := limb_nat a
        have g0 := (limb a 0).isLt
        have g1 : (limb a 1).toNat = 0 := by have hq := h0; rw [ne0_test] at hq; simpa using hq
        have g2 : (limb a 2).toNat = 0 := by have hq := h1; rw [ne0_test] at hq; simpa using hq
        have g3 : ¬ (limb a 3).toNat = 0 := by have hq := h2; rw [ne0_test] at hq; simpa using hq
        have hV : (by_r2 a).told? = some (.int .i64 (byI a)) := congrArg some (by show Value.int .i64 256 = .int .i64 (byI a); unfold byI; split <;> first | omega | rfl | (congr 1; omega))
        exact ev_callsI E0_ok 60 (by_2 a (allE_cons h0 (allE_cons h1 (allE_cons h2 allE_nil)))) hV (.cons (rel_wA _ a) .nil) rfl w
    · have hn := limb_nat a
      have g0 := (limb a 0).isLt
      have g1 : (limb a 1).toNat = 0 := by have hq := h0; rw [ne0_test] at hq; simpa using hq
      have g2 : ¬ (limb a 2).toNat = 0 := by have hq := h1; rw [ne0_test] at hq; simpa using hq
      have hV : (by_r1 a).told? = some (.int .i64 (byI a)) := congrArg some (by show Value.int .i64 256 = .int .i64 (byI a); unfold byI; split <;> first | omega | rfl | (congr 1; omega))
      exact ev_callsI E0_ok 60 (by_1 a (allE_cons h0 (allE_cons h1 allE_nil))) hV (.cons (rel_wA _ a) .nil) rfl w
  · have hn := limb_nat a
    have g0 := (limb a 0).isLt
    have g1 : ¬ (limb a 1).toNat = 0 := by have hq := h0; rw [ne0_test] at hq; simpa using hq
    have hV : (by_r0 a).told? = some (.int .i64 (byI a)) := congrArg some (by show Value.int .i64 256 = .int .i64 (byI a); unfold byI; split <;> first | omega | rfl | (congr 1; omega))
    exact ev_callsI E0_ok 60 (by_0 a (allE_cons h0 allE_nil)) hV (.cons (rel_wA _ a) .nil) rfl w
noncomputable def len64_r0 (x : BitVec 64) : AV := AV.int IntKind.i64 false (IntKind.wrap IntKind.i64 (IntKind.wrap IntKind.i64 (IntKind.wrap IntKind.i64 (32 + 16) + 8) + IntKind.wrap IntKind.i64 (strAt { data := List.toArray (List.append (List.append [0, 1, 2, 2, 3, 3, 3, 3, 4, 4, 4, 4, 4, 4, 4, 4, 5, 5, 5, 5, 5, 5, 5, 5, 5, 5, 5, 5, 5, 5, 5, 5, 6, 6, 6, 6, 6, 6, 6, 6, 6, 6, 6, 6, 6, 6, 6, 6, 6, 6, 6, 6, 6, 6, 6, 6, 6, 6, 6, 6, 6, 6, 6, 6] [7, 7, 7, 7, 7, 7, 7, 7, 7, 7, 7, 7, 7, 7, 7, 7, 7, 7, 7, 7, 7, 7, 7, 7, 7, 7, 7, 7, 7, 7, 7, 7, 7, 7, 7, 7, 7, 7, 7, 7, 7, 7, 7, 7, 7, 7, 7, 7, 7, 7, 7, 7, 7, 7, 7, 7, 7, 7, 7, 7, 7, 7, 7, 7]) (List.append [8, 8, 8, 8, 8, 8, 8, 8, 8, 8, 8, 8, 8, 8, 8, 8, 8, 8, 8, 8, 8, 8, 8, 8, 8, 8, 8, 8, 8, 8, 8, 8, 8, 8, 8, 8, 8, 8, 8, 8, 8, 8, 8, 8, 8, 8, 8, 8, 8, 8, 8, 8, 8, 8, 8, 8, 8, 8, 8, 8, 8, 8, 8, 8] [8, 8, 8, 8, 8, 8, 8, 8, 8, 8, 8, 8, 8, 8, 8, 8, 8, 8, 8, 8, 8, 8, 8, 8, 8, 8, 8, 8, 8, 8, 8, 8, 8, 8, 8, 8, 8, 8, 8, 8, 8, 8, 8, 8, 8, 8, 8, 8, 8, 8, 8, 8, 8, 8, 8, 8, 8, 8, 8, 8, 8, 8, 8, 8])) } (↑(BitVec.toNat (BitVec.setWidth 8 (x >>> Int.toNat 32 >>> Int.toNat 16 >>> Int.toNat 8))) : Int))))
theorem len64_0 (x : BitVec 64) (h : AllE [(Nat.ble (BitVec.toNat (BitVec.ofInt 64 4294967296)) (BitVec.toNat x), true), (Nat.ble (BitVec.toNat (BitVec.ofInt 64 65536)) (BitVec.toNat (x >>> Int.toNat 32)), true), (Nat.ble (BitVec.toNat (BitVec.ofInt 64 256)) (BitVec.toNat (x >>> Int.toNat 32 >>> Int.toNat 16)), true), (decide (0 ≤ (↑(BitVec.toNat (BitVec.setWidth 8 (x >>> Int.toNat 32 >>> Int.toNat 16 >>> Int.toNat 8))) : Int) ∧ (↑(BitVec.toNat (BitVec.setWidth 8 (x >>> Int.toNat 32 >>> Int.toNat 16 >>> Int.toNat 8))) : Int) < (↑(ByteArray.size { data := List.toArray (List.append (List.append [0, 1, 2, 2, 3, 3, 3, 3, 4, 4, 4, 4, 4, 4, 4, 4, 5, 5, 5, 5, 5, 5, 5, 5, 5, 5, 5, 5, 5, 5, 5, 5, 6, 6, 6, 6, 6, 6, 6, 6, 6, 6, 6, 6, 6, 6, 6, 6, 6, 6, 6, 6, 6, 6, 6, 6, 6, 6, 6, 6, 6, 6, 6, 6] [7, 7, 7, 7, 7, 7, 7, 7, 7, 7, 7, 7, 7, 7, 7, 7, 7, 7, 7, 7, 7, 7, 7, 7, 7, 7, 7, 7, 7, 7, 7, 7, 7, 7, 7, 7, 7, 7, 7, 7, 7, 7, 7, 7, 7, 7, 7, 7, 7, 7, 7, 7, 7, 7, 7, 7, 7, 7, 7, 7, 7, 7, 7, 7]) (List.append [8, 8, 8, 8, 8, 8, 8, 8, 8, 8, 8, 8, 8, 8, 8, 8, 8, 8, 8, 8, 8, 8, 8, 8, 8, 8, 8, 8, 8, 8, 8, 8, 8, 8, 8, 8, 8, 8, 8, 8, 8, 8, 8, 8, 8, 8, 8, 8, 8, 8, 8, 8, 8, 8, 8, 8, 8, 8, 8, 8, 8, 8, 8, 8] [8, 8, 8, 8, 8, 8, 8, 8, 8, 8, 8, 8, 8, 8, 8, 8, 8, 8, 8, 8, 8, 8, 8, 8, 8, 8, 8, 8, 8, 8, 8, 8, 8, 8, 8, 8, 8, 8, 8, 8, 8, 8, 8, 8, 8, 8, 8, 8, 8, 8, 8, 8, 8, 8, 8, 8, 8, 8, 8, 8, 8, 8, 8, 8])) }) : Int)), true)]) : Is (evCall (mkEnv noRows []) 60 44 [b64 x] ⟨[], [true, true, true], allW⟩ (fun v _ => v = len64_r0 x)) := ev_eq [(Nat.ble (BitVec.toNat (BitVec.ofInt 64 4294967296)) (BitVec.toNat x), true), (Nat.ble (BitVec.toNat (BitVec.ofInt 64 65536)) (BitVec.toNat (x >>> Int.toNat 32)), true), (Nat.ble (BitVec.toNat (BitVec.ofInt 64 256)) (BitVec.toNat (x >>> Int.toNat 32 >>> Int.toNat 16)), true), (decide (0 ≤ (↑(BitVec.toNat (BitVec.setWidth 8 (x >>> Int.toNat 32 >>> Int.toNat 16 >>> Int.toNat 8))) : Int) ∧ (↑(BitVec.toNat (BitVec.setWidth 8 (x >>> Int.toNat 32 >>> Int.toNat 16 >>> Int.toNat 8))) : Int) < (↑(ByteArray.size { data := List.toArray (List.append (List.append [0, 1, 2, 2, 3, 3, 3, 3, 4, 4, 4, 4, 4, 4, 4, 4, 5, 5, 5, 5, 5, 5, 5, 5, 5, 5, 5, 5, 5, 5, 5, 5, 6, 6, 6, 6, 6, 6, 6, 6, 6, 6, 6, 6, 6, 6, 6, 6, 6, 6, 6, 6, 6, 6, 6, 6, 6, 6, 6, 6, 6, 6, 6, 6] [7, 7, 7, 7, 7, 7, 7, 7, 7, 7, 7, 7, 7, 7, 7, 7, 7, 7, 7, 7, 7, 7, 7, 7, 7, 7, 7, 7, 7, 7, 7, 7, 7, 7, 7, 7, 7, 7, 7, 7, 7, 7, 7, 7, 7, 7, 7, 7, 7, 7, 7, 7, 7, 7, 7, 7, 7, 7, 7, 7, 7, 7, 7, 7]) (List.append [8, 8, 8, 8, 8, 8, 8, 8, 8, 8, 8, 8, 8, 8, 8, 8, 8, 8, 8, 8, 8, 8, 8, 8, 8, 8, 8, 8, 8, 8, 8, 8, 8, 8, 8, 8, 8, 8, 8, 8, 8, 8, 8, 8, 8, 8, 8, 8, 8, 8, 8, 8, 8, 8, 8, 8, 8, 8, 8, 8, 8, 8, 8, 8] [8, 8, 8, 8, 8, 8, 8, 8, 8, 8, 8, 8, 8, 8, 8, 8, 8, 8, 8, 8, 8, 8, 8, 8, 8, 8, 8, 8, 8, 8, 8, 8, 8, 8, 8, 8, 8, 8, 8, 8, 8, 8, 8, 8, 8, 8, 8, 8, 8, 8, 8, 8, 8, 8, 8, 8, 8, 8, 8, 8, 8, 8, 8, 8])) }) : Int)), true)] (len64_r0 x) (by kernel_rfl) h
noncomputable def len64_r1 (x : BitVec 64) : AV := AV.int IntKind.i64 false (IntKind.wrap IntKind.i64 (IntKind.wrap IntKind.i64 (32 + 16) + IntKind.wrap IntKind.i64 (strAt { data := List.toArray (List.append (List.append [0, 1, 2, 2, 3, 3, 3, 3, 4, 4, 4, 4, 4, 4, 4, 4, 5, 5, 5, 5, 5, 5, 5, 5, 5, 5, 5, 5, 5, 5, 5, 5, 6, 6, 6, 6, 6, 6, 6, 6, 6, 6, 6, 6, 6, 6, 6, 6, 6, 6, 6, 6, 6, 6, 6, 6, 6, 6, 6, 6, 6, 6, 6, 6] [7, 7, 7, 7, 7, 7, 7, 7, 7, 7, 7, 7, 7, 7, 7, 7, 7, 7, 7, 7, 7, 7, 7, 7, 7, 7, 7, 7, 7, 7, 7, 7, 7, 7, 7, 7, 7, 7, 7, 7, 7, 7, 7, 7, 7, 7, 7, 7, 7, 7, 7, 7, 7, 7, 7, 7, 7, 7, 7, 7, 7, 7, 7, 7]) (List.append [8, 8, 8, 8, 8, 8, 8, 8, 8, 8, 8, 8, 8, 8, 8, 8, 8, 8, 8, 8, 8, 8, 8, 8, 8, 8, 8, 8, 8, 8, 8, 8, 8, 8, 8, 8, 8, 8, 8, 8, 8, 8, 8, 8, 8, 8, 8, 8, 8, 8, 8, 8, 8, 8, 8, 8, 8, 8, 8, 8, 8, 8, 8, 8] [8, 8, 8, 8, 8, 8, 8, 8, 8, 8, 8, 8, 8, 8, 8, 8, 8, 8, 8, 8, 8, 8, 8, 8, 8, 8, 8, 8, 8, 8, 8, 8, 8, 8, 8, 8, 8, 8, 8, 8, 8, 8, 8, 8, 8, 8, 8, 8, 8, 8, 8, 8, 8, 8, 8, 8, 8, 8, 8, 8, 8, 8, 8, 8])) } (↑(BitVec.toNat (BitVec.setWidth 8 (x >>> Int.toNat 32 >>> Int.toNat 16))) : Int))))
theorem len64_1 (x : BitVec 64) (h : AllE [(Nat.ble (BitVec.toNat (BitVec.ofInt 64 4294967296)) (BitVec.toNat x), true), (Nat.ble (BitVec.toNat (BitVec.ofInt 64 65536)) (BitVec.toNat (x >>> Int.toNat 32)), true), (Nat.ble (BitVec.toNat (BitVec.ofInt 64 256)) (BitVec.toNat (x >>> Int.toNat 32 >>> Int.toNat 16)), false), (decide (0 ≤ (↑(BitVec.toNat (BitVec.setWidth 8 (x >>> Int.toNat 32 >>> Int.toNat 16))) : Int) ∧ (↑(BitVec.toNat (BitVec.setWidth 8 (x >>> Int.toNat 32 >>> Int.toNat 16))) : Int) < (↑(ByteArray.size { data := List.toArray (List.append (List.append [0, 1, 2, 2, 3, 3, 3, 3, 4, 4, 4, 4, 4, 4, 4, 4, 5, 5, 5, 5, 5, 5, 5, 5, 5, 5, 5, 5, 5, 5, 5, 5, 6, 6, 6, 6, 6, 6, 6, 6, 6, 6, 6, 6, 6, 6, 6, 6, 6, 6, 6, 6, 6, 6, 6, 6, 6, 6, 6, 6, 6, 6, 6, 6] [7, 7, 7, 7, 7, 7, 7, 7, 7, 7, 7, 7, 7, 7, 7, 7, 7, 7, 7, 7, 7, 7, 7, 7, 7, 7, 7, 7, 7, 7, 7, 7, 7, 7, 7, 7, 7, 7, 7, 7, 7, 7, 7, 7, 7, 7, 7, 7, 7, 7, 7, 7, 7, 7, 7, 7, 7, 7, 7, 7, 7, 7, 7, 7]) (List.append [8, 8, 8, 8, 8, 8, 8, 8, 8, 8, 8, 8, 8, 8, 8, 8, 8, 8, 8, 8, 8, 8, 8, 8, 8, 8, 8, 8, 8, 8, 8, 8, 8, 8, 8, 8, 8, 8, 8, 8, 8, 8, 8, 8, 8, 8, 8, 8, 8, 8, 8, 8, 8, 8, 8, 8, 8, 8, 8, 8, 8, 8, 8, 8] [8, 8, 8, 8, 8, 8, 8, 8, 8, 8, 8, 8, 8, 8, 8, 8, 8, 8, 8, 8, 8, 8, 8, 8, 8, 8, 8, 8, 8, 8, 8, 8, 8, 8, 8, 8, 8, 8, 8, 8, 8, 8, 8, 8, 8, 8, 8, 8, 8, 8, 8, 8, 8, 8, 8, 8, 8, 8, 8, 8, 8, 8, 8, 8])) }) : Int)), true)]) : Is (evCall (mkEnv noRows []) 60 44 [b64 x] ⟨[], [true, true, false], allW⟩ (fun v _ => v = len64_r1 x)) := ev_eq [(Nat.ble (BitVec.toNat (BitVec.ofInt 64 4294967296)) (BitVec.toNat x), true), (Nat.ble (BitVec.toNat (BitVec.ofInt 64 65536)) (BitVec.toNat (x >>> Int.toNat 32)), true), (Nat.ble (BitVec.toNat (BitVec.ofInt 64 256)) (BitVec.toNat (x >>> Int.toNat 32 >>> Int.toNat 16)), false), (decide (0 ≤ (↑(BitVec.toNat (BitVec.setWidth 8 (x >>> Int.toNat 32 >>> Int.toNat 16))) : Int) ∧ (↑(BitVec.toNat (BitVec.setWidth 8 (x >>> Int.toNat 32 >>> Int.toNat 16))) : Int) < (↑(ByteArray.size { data := List.toArray (List.append (List.append [0, 1, 2, 2, 3, 3, 3, 3, 4, 4, 4, 4, 4, 4, 4, 4, 5, 5, 5, 5, 5, 5, 5, 5, 5, 5, 5, 5, 5, 5, 5, 5, 6, 6, 6, 6, 6, 6, 6, 6, 6, 6, 6, 6, 6, 6, 6, 6, 6, 6, 6, 6, 6, 6, 6, 6, 6, 6, 6, 6, 6, 6, 6, 6] [7, 7, 7, 7, 7, 7, 7, 7, 7, 7, 7, 7, 7, 7, 7, 7, 7, 7, 7, 7, 7, 7, 7, 7, 7, 7, 7, 7, 7, 7, 7, 7, 7, 7, 7, 7, 7, 7, 7, 7, 7, 7, 7, 7, 7, 7, 7, 7, 7, 7, 7, 7, 7, 7, 7, 7, 7, 7, 7, 7, 7, 7, 7, 7]) (List.append [8, 8, 8, 8, 8, 8, 8, 8, 8, 8, 8, 8, 8, 8, 8, 8, 8, 8, 8, 8, 8, 8, 8, 8, 8, 8, 8, 8, 8, 8, 8, 8, 8, 8, 8, 8, 8, 8, 8, 8, 8, 8, 8, 8, 8, 8, 8, 8, 8, 8, 8, 8, 8, 8, 8, 8, 8, 8, 8, 8, 8, 8, 8, 8] [8, 8, 8, 8, 8, 8, 8, 8, 8, 8, 8, 8, 8, 8, 8, 8, 8, 8, 8, 8, 8, 8, 8, 8, 8, 8, 8, 8, 8, 8, 8, 8, 8, 8, 8, 8, 8, 8, 8, 8, 8, 8, 8, 8, 8, 8, 8, 8, 8, 8, 8, 8, 8, 8, 8, 8, 8, 8, 8, 8, 8, 8, 8, 8])) }) : Int)), true)] (len64_r1 x) (by kernel_rfl) h
noncomputable def len64_r2 (x : BitVec 64) : AV := AV.int IntKind.i64 false (IntKind.wrap IntKind.i64 (IntKind.wrap IntKind.i64 (32 + 8) + IntKind.wrap IntKind.i64 (strAt { data := List.toArray (List.append (List.append [0, 1, 2, 2, 3, 3, 3, 3, 4, 4, 4, 4, 4, 4, 4, 4, 5, 5, 5, 5, 5, 5, 5, 5, 5, 5, 5, 5, 5, 5, 5, 5, 6, 6, 6, 6, 6, 6, 6, 6, 6, 6, 6, 6, 6, 6, 6, 6, 6, 6, 6, 6, 6, 6, 6, 6, 6, 6, 6, 6, 6, 6, 6, 6] [7, 7, 7, 7, 7, 7, 7, 7, 7, 7, 7, 7, 7, 7, 7, 7, 7, 7, 7, 7, 7, 7, 7, 7, 7, 7, 7, 7, 7, 7, 7, 7, 7, 7, 7, 7, 7, 7, 7, 7, 7, 7, 7, 7, 7, 7, 7, 7, 7, 7, 7, 7, 7, 7, 7, 7, 7, 7, 7, 7, 7, 7, 7, 7]) (List.append [8, 8, 8, 8, 8, 8, 8, 8, 8, 8, 8, 8, 8, 8, 8, 8, 8, 8, 8, 8, 8, 8, 8, 8, 8, 8, 8, 8, 8, 8, 8, 8, 8, 8, 8, 8, 8, 8, 8, 8, 8, 8, 8, 8, 8, 8, 8, 8, 8, 8, 8, 8, 8, 8, 8, 8, 8, 8, 8, 8, 8, 8, 8, 8] [8, 8, 8, 8, 8, 8, 8, 8, 8, 8, 8, 8, 8, 8, 8, 8, 8, 8, 8, 8, 8, 8, 8, 8, 8, 8, 8, 8, 8, 8, 8, 8, 8, 8, 8, 8, 8, 8, 8, 8, 8, 8, 8, 8, 8, 8, 8, 8, 8, 8, 8, 8, 8, 8, 8, 8, 8, 8, 8, 8, 8, 8, 8, 8])) } (↑(BitVec.toNat (BitVec.setWidth 8 (x >>> Int.toNat 32 >>> Int.toNat 8))) : Int))))
theorem len64_2 (x : BitVec 64) (h : AllE [(Nat.ble (BitVec.toNat (BitVec.ofInt 64 4294967296)) (BitVec.toNat x), true), (Nat.ble (BitVec.toNat (BitVec.ofInt 64 65536)) (BitVec.toNat (x >>> Int.toNat 32)), false), (Nat.ble (BitVec.toNat (BitVec.ofInt 64 256)) (BitVec.toNat (x >>> Int.toNat 32)), true), (decide (0 ≤ (↑(BitVec.toNat (BitVec.setWidth 8 (x >>> Int.toNat 32 >>> Int.toNat 8))) : Int) ∧ (↑(BitVec.toNat (BitVec.setWidth 8 (x >>> Int.toNat 32 >>> Int.toNat 8))) : Int) < (↑(ByteArray.size { data := List.toArray (List.append (List.append [0, 1, 2, 2, 3, 3, 3, 3, 4, 4, 4, 4, 4, 4, 4, 4, 5, 5, 5, 5, 5, 5, 5, 5, 5, 5, 5, 5, 5, 5, 5, 5, 6, 6, 6, 6, 6, 6, 6, 6, 6, 6, 6, 6, 6, 6, 6, 6, 6, 6, 6, 6, 6, 6, 6, 6, 6, 6, 6, 6, 6, 6, 6, 6] [7, 7, 7, 7, 7, 7, 7, 7, 7, 7, 7, 7, 7, 7, 7, 7, 7, 7, 7, 7, 7, 7, 7, 7, 7, 7, 7, 7, 7, 7, 7, 7, 7, 7, 7, 7, 7, 7, 7, 7, 7, 7, 7, 7, 7, 7, 7, 7, 7, 7, 7, 7, 7, 7, 7, 7, 7, 7, 7, 7, 7, 7, 7, 7]) (List.append [8, 8, 8, 8, 8, 8, 8, 8, 8, 8, 8, 8, 8, 8, 8, 8, 8, 8, 8, 8, 8, 8, 8, 8, 8, 8, 8, 8, 8, 8, 8, 8, 8, 8, 8, 8, 8, 8, 8, 8, 8, 8, 8, 8, 8, 8, 8, 8, 8, 8, 8, 8, 8, 8, 8, 8, 8, 8, 8, 8, 8, 8, 8, 8] [8, 8, 8, 8, 8, 8, 8, 8, 8, 8, 8, 8, 8, 8, 8, 8, 8, 8, 8, 8, 8, 8, 8, 8, 8, 8, 8, 8, 8, 8, 8, 8, 8, 8, 8, 8, 8, 8, 8, 8, 8, 8, 8, 8, 8, 8, 8, 8, 8, 8, 8, 8, 8, 8, 8, 8, 8, 8, 8, 8, 8, 8, 8, 8])) }) : Int)), true)]) : Is (evCall (mkEnv noRows []) 60 44 [b64 x] ⟨[], [true, false, true], allW⟩ (fun v _ => v = len64_r2 x)) := ev_eq [(Nat.ble (BitVec.toNat (BitVec.ofInt 64 4294967296)) (BitVec.toNat x), true), (Nat.ble (BitVec.toNat (BitVec.ofInt 64 65536)) (BitVec.toNat (x >>> Int.toNat 32)), false), (Nat.ble (BitVec.toNat (BitVec.ofInt 64 256)) (BitVec.toNat (x >>> Int.toNat 32)), true), (decide (0 ≤ (↑(BitVec.toNat (BitVec.setWidth 8 (x >>> Int.toNat 32 >>> Int.toNat 8))) : Int) ∧ (↑(BitVec.toNat (BitVec.setWidth 8 (x >>> Int.toNat 32 >>> Int.toNat 8))) : Int) < (↑(ByteArray.size { data := List.toArray (List.append (List.append [0, 1, 2, 2, 3, 3, 3, 3, 4, 4, 4, 4, 4, 4, 4, 4, 5, 5, 5, 5, 5, 5, 5, 5, 5, 5, 5, 5, 5, 5, 5, 5, 6, 6, 6, 6, 6, 6, 6, 6, 6, 6, 6, 6, 6, 6, 6, 6, 6, 6, 6, 6, 6, 6, 6, 6, 6, 6, 6, 6, 6, 6, 6, 6] [7, 7, 7, 7, 7, 7, 7, 7, 7, 7, 7, 7, 7, 7, 7, 7, 7, 7, 7, 7, 7, 7, 7, 7, 7, 7, 7, 7, 7, 7, 7, 7, 7, 7, 7, 7, 7, 7, 7, 7, 7, 7, 7, 7, 7, 7, 7, 7, 7, 7, 7, 7, 7, 7, 7, 7, 7, 7, 7, 7, 7, 7, 7, 7]) (List.append [8, 8, 8, 8, 8, 8, 8, 8, 8, 8, 8, 8, 8, 8, 8, 8, 8, 8, 8, 8, 8, 8, 8, 8, 8, 8, 8, 8, 8, 8, 8, 8, 8, 8, 8, 8, 8, 8, 8, 8, 8, 8, 8, 8, 8, 8, 8, 8, 8, 8, 8, 8, 8, 8, 8, 8, 8, 8, 8, 8, 8, 8, 8, 8] [8, 8, 8, 8, 8, 8, 8, 8, 8, 8, 8, 8, 8, 8, 8, 8, 8, 8, 8, 8, 8, 8, 8, 8, 8, 8, 8, 8, 8, 8, 8, 8, 8, 8, 8, 8, 8, 8, 8, 8, 8, 8, 8, 8, 8, 8, 8, 8, 8, 8, 8, 8, 8, 8, 8, 8, 8, 8, 8, 8, 8, 8, 8, 8])) }) : Int)), true)] (len64_r2 x) (by kernel_rfl) h
noncomputable def len64_r3 (x : BitVec 64) : AV := AV.int IntKind.i64 false (IntKind.wrap IntKind.i64 (32 + IntKind.wrap IntKind.i64 (strAt { data := List.toArray (List.append (List.append [0, 1, 2, 2, 3, 3, 3, 3, 4, 4, 4, 4, 4, 4, 4, 4, 5, 5, 5, 5, 5, 5, 5, 5, 5, 5, 5, 5, 5, 5, 5, 5, 6, 6, 6, 6, 6, 6, 6, 6, 6, 6, 6, 6, 6, 6, 6, 6, 6, 6, 6, 6, 6, 6, 6, 6, 6, 6, 6, 6, 6, 6, 6, 6] [7, 7, 7, 7, 7, 7, 7, 7, 7, 7, 7, 7, 7, 7, 7, 7, 7, 7, 7, 7, 7, 7, 7, 7, 7, 7, 7, 7, 7, 7, 7, 7, 7, 7, 7, 7, 7, 7, 7, 7, 7, 7, 7, 7, 7, 7, 7, 7, 7, 7, 7, 7, 7, 7, 7, 7, 7, 7, 7, 7, 7, 7, 7, 7]) (List.append [8, 8, 8, 8, 8, 8, 8, 8, 8, 8, 8, 8, 8, 8, 8, 8, 8, 8, 8, 8, 8, 8, 8, 8, 8, 8, 8, 8, 8, 8, 8, 8, 8, 8, 8, 8, 8, 8, 8, 8, 8, 8, 8, 8, 8, 8, 8, 8, 8, 8, 8, 8, 8, 8, 8, 8, 8, 8, 8, 8, 8, 8, 8, 8] [8, 8, 8, 8, 8, 8, 8, 8, 8, 8, 8, 8, 8, 8, 8, 8, 8, 8, 8, 8, 8, 8, 8, 8, 8, 8, 8, 8, 8, 8, 8, 8, 8, 8, 8, 8, 8, 8, 8, 8, 8, 8, 8, 8, 8, 8, 8, 8, 8, 8, 8, 8, 8, 8, 8, 8, 8, 8, 8, 8, 8, 8, 8, 8])) } (↑(BitVec.toNat (BitVec.setWidth 8 (x >>> Int.toNat 32))) : Int))))
theorem len64_3 (x : BitVec 64) (h : AllE [(Nat.ble (BitVec.toNat (BitVec.ofInt 64 4294967296)) (BitVec.toNat x), true), (Nat.ble (BitVec.toNat (BitVec.ofInt 64 65536)) (BitVec.toNat (x >>> Int.toNat 32)), false), (Nat.ble (BitVec.toNat (BitVec.ofInt 64 256)) (BitVec.toNat (x >>> Int.toNat 32)), false), (decide (0 ≤ (↑(BitVec.toNat (BitVec.setWidth 8 (x >>> Int.toNat 32))) : Int) ∧ (↑(BitVec.toNat (BitVec.setWidth 8 (x >>> Int.toNat 32))) : Int) < (↑(ByteArray.size { data := List.toArray (List.append (List.append [0, 1, 2, 2, 3, 3, 3, 3, 4, 4, 4, 4, 4, 4, 4, 4, 5, 5, 5, 5, 5, 5, 5, 5, 5, 5, 5, 5, 5, 5, 5, 5, 6, 6, 6, 6, 6, 6, 6, 6, 6, 6, 6, 6, 6, 6, 6, 6, 6, 6, 6, 6, 6, 6, 6, 6, 6, 6, 6, 6, 6, 6, 6, 6] [7, 7, 7, 7, 7, 7, 7, 7, 7, 7, 7, 7, 7, 7, 7, 7, 7, 7, 7, 7, 7, 7, 7, 7, 7, 7, 7, 7, 7, 7, 7, 7, 7, 7, 7, 7, 7, 7, 7, 7, 7, 7, 7, 7, 7, 7, 7, 7, 7, 7, 7, 7, 7, 7, 7, 7, 7, 7, 7, 7, 7, 7, 7, 7]) (List.append [8, 8, 8, 8, 8, 8, 8, 8, 8, 8, 8, 8, 8, 8, 8, 8, 8, 8, 8, 8, 8, 8, 8, 8, 8, 8, 8, 8, 8, 8, 8, 8, 8, 8, 8, 8, 8, 8, 8, 8, 8, 8, 8, 8, 8, 8, 8, 8, 8, 8, 8, 8, 8, 8, 8, 8, 8, 8, 8, 8, 8, 8, 8, 8] [8, 8, 8, 8, 8, 8, 8, 8, 8, 8, 8, 8, 8, 8, 8, 8, 8, 8, 8, 8, 8, 8, 8, 8, 8, 8, 8, 8, 8, 8, 8, 8, 8, 8, 8, 8, 8, 8, 8, 8, 8, 8, 8, 8, 8, 8, 8, 8, 8, 8, 8, 8, 8, 8, 8, 8, 8, 8, 8, 8, 8, 8, 8, 8])) }) : Int)), true)]) : Is (evCall (mkEnv noRows []) 60 44 [b64 x] ⟨[], [true, false, false], allW⟩ (fun v _ => v = len64_r3 x)) := ev_eq [(Nat.ble (BitVec.toNat (BitVec.ofInt 64 4294967296)) (BitVec.toNat x), true), (Nat.ble (BitVec.toNat (BitVec.ofInt 64 65536)) (BitVec.toNat (x >>> Int.toNat 32)), false), (Nat.ble (BitVec.toNat (BitVec.ofInt 64 256)) (BitVec.toNat (x >>> Int.toNat 32)), false), (decide (0 ≤ (↑(BitVec.toNat (BitVec.setWidth 8 (x >>> Int.toNat 32))) : Int) ∧ (↑(BitVec.toNat (BitVec.setWidth 8 (x >>> Int.toNat 32))) : Int) < (↑(ByteArray.size { data := List.toArray (List.append (List.append [0, 1, 2, 2, 3, 3, 3, 3, 4, 4, 4, 4, 4, 4, 4, 4, 5, 5, 5, 5, 5, 5, 5, 5, 5, 5, 5, 5, 5, 5, 5, 5, 6, 6, 6, 6, 6, 6, 6, 6, 6, 6, 6, 6, 6, 6, 6, 6, 6, 6, 6, 6, 6, 6, 6, 6, 6, 6, 6, 6, 6, 6, 6, 6] [7, 7, 7, 7, 7, 7, 7, 7, 7, 7, 7, 7, 7, 7, 7, 7, 7, 7, 7, 7, 7, 7, 7, 7, 7, 7, 7, 7, 7, 7, 7, 7, 7, 7, 7, 7, 7, 7, 7, 7, 7, 7, 7, 7, 7, 7, 7, 7, 7, 7, 7, 7, 7, 7, 7, 7, 7, 7, 7, 7, 7, 7, 7, 7]) (List.append [8, 8, 8, 8, 8, 8, 8, 8, 8, 8, 8, 8, 8, 8, 8, 8, 8, 8, 8, 8, 8, 8, 8, 8, 8, 8, 8, 8, 8, 8, 8, 8, 8, 8, 8, 8, 8, 8, 8, 8, 8, 8, 8, 8, 8, 8, 8, 8, 8, 8, 8, 8, 8, 8, 8, 8, 8, 8, 8, 8, 8, 8, 8, 8] [8, 8, 8, 8, 8, 8, 8, 8, 8, 8, 8, 8, 8, 8, 8, 8, 8, 8, 8, 8, 8, 8, 8, 8, 8, 8, 8, 8, 8, 8, 8, 8, 8, 8, 8, 8, 8, 8, 8, 8, 8, 8, 8, 8, 8, 8, 8, 8, 8, 8, 8, 8, 8, 8, 8, 8, 8, 8, 8, 8, 8, 8, 8, 8])) }) : Int)), true)] (len64_r3 x) (by kernel_rfl) h
noncomputable def len64_r4 (x : BitVec 64) : AV := AV.int IntKind.i64 false (IntKind.wrap IntKind.i64 (IntKind.wrap IntKind.i64 (IntKind.wrap IntKind.i64 (0 + 16) + 8) + IntKind.wrap IntKind.i64 (strAt { data := List.toArray (List.append (List.append [0, 1, 2, 2, 3, 3, 3, 3, 4, 4, 4, 4, 4, 4, 4, 4, 5, 5, 5, 5, 5, 5, 5, 5, 5, 5, 5, 5, 5, 5, 5, 5, 6, 6, 6, 6, 6, 6, 6, 6, 6, 6, 6, 6, 6, 6, 6, 6, 6, 6, 6, 6, 6, 6, 6, 6, 6, 6, 6, 6, 6, 6, 6, 6] [7, 7, 7, 7, 7, 7, 7, 7, 7, 7, 7, 7, 7, 7, 7, 7, 7, 7, 7, 7, 7, 7, 7, 7, 7, 7, 7, 7, 7, 7, 7, 7, 7, 7, 7, 7, 7, 7, 7, 7, 7, 7, 7, 7, 7, 7, 7, 7, 7, 7, 7, 7, 7, 7, 7, 7, 7, 7, 7, 7, 7, 7, 7, 7]) (List.append [8, 8, 8, 8, 8, 8, 8, 8, 8, 8, 8, 8, 8, 8, 8, 8, 8, 8, 8, 8, 8, 8, 8, 8, 8, 8, 8, 8, 8, 8, 8, 8, 8, 8, 8, 8, 8, 8, 8, 8, 8, 8, 8, 8, 8, 8, 8, 8, 8, 8, 8, 8, 8, 8, 8, 8, 8, 8, 8, 8, 8, 8, 8, 8] [8, 8, 8, 8, 8, 8, 8, 8, 8, 8, 8, 8, 8, 8, 8, 8, 8, 8, 8, 8, 8, 8, 8, 8, 8, 8, 8, 8, 8, 8, 8, 8, 8, 8, 8, 8, 8, 8, 8, 8, 8, 8, 8, 8, 8, 8, 8, 8, 8, 8, 8, 8, 8, 8, 8, 8, 8, 8, 8, 8, 8, 8, 8, 8])) } (↑(BitVec.toNat (BitVec.setWidth 8 (x >>> Int.toNat 16 >>> Int.toNat 8))) : Int))))
theorem len64_4 (x : BitVec 64) (h : AllE [(Nat.ble (BitVec.toNat (BitVec.ofInt 64 4294967296)) (BitVec.toNat x), false), (Nat.ble (BitVec.toNat (BitVec.ofInt 64 65536)) (BitVec.toNat x), true), (Nat.ble (BitVec.toNat (BitVec.ofInt 64 256)) (BitVec.toNat (x >>> Int.toNat 16)), true), (decide (0 ≤ (↑(BitVec.toNat (BitVec.setWidth 8 (x >>> Int.toNat 16 >>> Int.toNat 8))) : Int) ∧ (↑(BitVec.toNat (BitVec.setWidth 8 (x >>> Int.toNat 16 >>> Int.toNat 8))) : Int) < (↑(ByteArray.size { data := List.toArray (List.append (List.append [0, 1, 2, 2, 3, 3, 3, 3, 4, 4, 4, 4, 4, 4, 4, 4, 5, 5, 5, 5, 5, 5, 5, 5, 5, 5, 5, 5, 5, 5, 5, 5, 6, 6, 6, 6, 6, 6, 6, 6, 6, 6, 6, 6, 6, 6, 6, 6, 6, 6, 6, 6, 6, 6, 6, 6, 6, 6, 6, 6, 6, 6, 6, 6] [7, 7, 7, 7, 7, 7, 7, 7, 7, 7, 7, 7, 7, 7, 7, 7, 7, 7, 7, 7, 7, 7, 7, 7, 7, 7, 7, 7, 7, 7, 7, 7, 7, 7, 7, 7, 7, 7, 7, 7, 7, 7, 7, 7, 7, 7, 7, 7, 7, 7, 7, 7, 7, 7, 7, 7, 7, 7, 7, 7, 7, 7, 7, 7]) (List.append [8, 8, 8, 8, 8, 8, 8, 8, 8, 8, 8, 8, 8, 8, 8, 8, 8, 8, 8, 8, 8, 8, 8, 8, 8, 8, 8, 8, 8, 8, 8, 8, 8, 8, 8, 8, 8, 8, 8, 8, 8, 8, 8, 8, 8, 8, 8, 8, 8, 8, 8, 8, 8, 8, 8, 8, 8, 8, 8, 8, 8, 8, 8, 8] [8, 8, 8, 8, 8, 8, 8, 8, 8, 8, 8, 8, 8, 8, 8, 8, 8, 8, 8, 8, 8, 8, 8, 8, 8, 8, 8, 8, 8, 8, 8, 8, 8, 8, 8, 8, 8, 8, 8, 8, 8, 8, 8, 8, 8, 8, 8, 8, 8, 8, 8, 8, 8, 8, 8, 8, 8, 8, 8, 8, 8, 8, 8, 8])) }) : Int)), true)]) : Is (evCall (mkEnv noRows []) 60 44 [b64 x] ⟨[], [false, true, true], allW⟩ (fun v _ => v = len64_r4 x)) := ev_eq [(Nat.ble (BitVec.toNat (BitVec.ofInt 64 4294967296)) (BitVec.toNat x), false), (Nat.ble (BitVec.toNat (BitVec.ofInt 64 65536)) (BitVec.toNat x), true), (Nat.ble (BitVec.toNat (BitVec.ofInt 64 256)) (BitVec.toNat (x >>> Int.toNat 16)), true), (decide (0 ≤ (↑(BitVec.toNat (BitVec.setWidth 8 (x >>> Int.toNat 16 >>> Int.toNat 8))) : Int) ∧ (↑(BitVec.toNat (BitVec.setWidth 8 (x >>> Int.toNat 16 >>> Int.toNat 8))) : Int) < (↑(ByteArray.size { data := List.toArray (List.append (List.append [0, 1, 2, 2, 3, 3, 3, 3, 4, 4, 4, 4, 4, 4, 4, 4, 5, 5, 5, 5, 5, 5, 5, 5, 5, 5, 5, 5, 5, 5, 5, 5, 6, 6, 6, 6, 6, 6, 6, 6, 6, 6, 6, 6, 6, 6, 6, 6, 6, 6, 6, 6, 6, 6, 6, 6, 6, 6, 6, 6, 6, 6, 6, 6] [7, 7, 7, 7, 7, 7, 7, 7, 7, 7, 7, 7, 7, 7, 7, 7, 7, 7, 7, 7, 7, 7, 7, 7, 7, 7, 7, 7, 7, 7, 7, 7, 7, 7, 7, 7, 7, 7, 7, 7, 7, 7, 7, 7, 7, 7, 7, 7, 7, 7, 7, 7, 7, 7, 7, 7, 7, 7, 7, 7, 7, 7, 7, 7]) (List.append [8, 8, 8, 8, 8, 8, 8, 8, 8, 8, 8, 8, 8, 8, 8, 8, 8, 8, 8, 8, 8, 8, 8, 8, 8, 8, 8, 8, 8, 8, 8, 8, 8, 8, 8, 8, 8, 8, 8, 8, 8, 8, 8, 8, 8, 8, 8, 8, 8, 8, 8, 8, 8, 8, 8, 8, 8, 8, 8, 8, 8, 8, 8, 8] [8, 8, 8, 8, 8, 8, 8, 8, 8, 8, 8, 8, 8, 8, 8, 8, 8, 8, 8, 8, 8, 8, 8, 8, 8, 8, 8, 8, 8, 8, 8, 8, 8, 8, 8, 8, 8, 8, 8, 8, 8, 8, 8, 8, 8, 8, 8, 8, 8, 8, 8, 8, 8, 8, 8, 8, 8, 8, 8, 8, 8, 8, 8, 8])) }) : Int)), true)] (len64_r4 x) (by kernel_rfl) h
noncomputable def len64_r5 (x : BitVec 64) : AV := AV.int IntKind.i64 false (IntKind.wrap IntKind.i64 (IntKind.wrap IntKind.i64 (0 + 16) + IntKind.wrap IntKind.i64 (strAt { data := List.toArray (List.append (List.append [0, 1, 2, 2, 3, 3, 3, 3, 4, 4, 4, 4, 4, 4, 4, 4, 5, 5, 5, 5, 5, 5, 5, 5, 5, 5, 5, 5, 5, 5, 5, 5, 6, 6, 6, 6, 6, 6, 6, 6, 6, 6, 6, 6, 6, 6, 6, 6, 6, 6, 6, 6, 6, 6, 6, 6, 6, 6, 6, 6, 6, 6, 6, 6] [7, 7, 7, 7, 7, 7, 7, 7, 7, 7, 7, 7, 7, 7, 7, 7, 7, 7, 7, 7, 7, 7, 7, 7, 7, 7, 7, 7, 7, 7, 7, 7, 7, 7, 7, 7, 7, 7, 7, 7, 7, 7, 7, 7, 7, 7, 7, 7, 7, 7, 7, 7, 7, 7, 7, 7, 7, 7, 7, 7, 7, 7, 7, 7]) (List.append [8, 8, 8, 8, 8, 8, 8, 8, 8, 8, 8, 8, 8, 8, 8, 8, 8, 8, 8, 8, 8, 8, 8, 8, 8, 8, 8, 8, 8, 8, 8, 8, 8, 8, 8, 8, 8, 8, 8, 8, 8, 8, 8, 8, 8, 8, 8, 8, 8, 8, 8, 8, 8, 8, 8, 8, 8, 8, 8, 8, 8, 8, 8, 8] [8, 8, 8, 8, 8, 8, 8, 8, 8, 8, 8, 8, 8, 8, 8, 8, 8, 8, 8, 8, 8, 8, 8, 8, 8, 8, 8, 8, 8, 8, 8, 8, 8, 8, 8, 8, 8, 8, 8, 8, 8, 8, 8, 8, 8, 8, 8, 8, 8, 8, 8, 8, 8, 8, 8, 8, 8, 8, 8, 8, 8, 8, 8, 8])) } (↑(BitVec.toNat (BitVec.setWidth 8 (x >>> Int.toNat 16))) : Int))))
theorem len64_5 (x : BitVec 64) (h : AllE [(Nat.ble (BitVec.toNat (BitVec.ofInt 64 4294967296)) (BitVec.toNat x), false), (Nat.ble (BitVec.toNat (BitVec.ofInt 64 65536)) (BitVec.toNat x), true), (Nat.ble (BitVec.toNat (BitVec.ofInt 64 256)) (BitVec.toNat (x >>> Int.toNat 16)), false), (decide (0 ≤ (↑(BitVec.toNat (BitVec.setWidth 8 (x >>> Int.toNat 16))) : Int) ∧ (↑(BitVec.toNat (BitVec.setWidth 8 (x >>> Int.toNat 16))) : Int) < (↑(ByteArray.size { data := List.toArray (List.append (List.append [0, 1, 2, 2, 3, 3, 3, 3, 4, 4, 4, 4, 4, 4, 4, 4, 5, 5, 5, 5, 5, 5, 5, 5, 5, 5, 5, 5, 5, 5, 5, 5, 6, 6, 6, 6, 6, 6, 6, 6, 6, 6, 6, 6, 6, 6, 6, 6, 6, 6, 6, 6, 6, 6, 6, 6, 6, 6, 6, 6, 6, 6, 6, 6] [7, 7, 7, 7, 7, 7, 7, 7, 7, 7, 7, 7, 7, 7, 7, 7, 7, 7, 7, 7, 7, 7, 7, 7, 7, 7, 7, 7, 7, 7, 7, 7, 7, 7, 7, 7, 7, 7, 7, 7, 7, 7, 7, 7, 7, 7, 7, 7, 7, 7, 7, 7, 7, 7, 7, 7, 7, 7, 7, 7, 7, 7, 7, 7]) (List.append [8, 8, 8, 8, 8, 8, 8, 8, 8, 8, 8, 8, 8, 8, 8, 8, 8, 8, 8, 8, 8, 8, 8, 8, 8, 8, 8, 8, 8, 8, 8, 8, 8, 8, 8, 8, 8, 8, 8, 8, 8, 8, 8, 8, 8, 8, 8, 8, 8, 8, 8, 8, 8, 8, 8, 8, 8, 8, 8, 8, 8, 8, 8, 8] [8, 8, 8, 8, 8, 8, 8, 8, 8, 8, 8, 8, 8, 8, 8, 8, 8, 8, 8, 8, 8, 8, 8, 8, 8, 8, 8, 8, 8, 8, 8, 8, 8, 8, 8, 8, 8, 8, 8, 8, 8, 8, 8, 8, 8, 8, 8, 8, 8, 8, 8, 8, 8, 8, 8, 8, 8, 8, 8, 8, 8, 8, 8, 8])) }) : Int)), true)]) : Is (evCall (mkEnv noRows []) 60 44 [b64 x] ⟨[], [false, true, false], allW⟩ (fun v _ => v = len64_r5 x)) := ev_eq [(Nat.ble (BitVec.toNat (BitVec.ofInt 64 4294967296)) (BitVec.toNat x), false), (Nat.ble (BitVec.toNat (BitVec.ofInt 64 65536)) (BitVec.toNat x), true), (Nat.ble (BitVec.toNat (BitVec.ofInt 64 256)) (BitVec.toNat (x >>> Int.toNat 16)), false), (decide (0 ≤ (↑(BitVec.toNat (BitVec.setWidth 8 (x >>> Int.toNat 16))) : Int) ∧ (↑(BitVec.toNat (BitVec.setWidth 8 (x >>> Int.toNat 16))) : Int) < (↑(ByteArray.size { data := List.toArray (List.append (List.append [0, 1, 2, 2, 3, 3, 3, 3, 4, 4, 4, 4, 4, 4, 4, 4, 5, 5, 5, 5, 5, 5, 5, 5, 5, 5, 5, 5, 5, 5, 5, 5, 6, 6, 6, 6, 6, 6, 6, 6, 6, 6, 6, 6, 6, 6, 6, 6, 6, 6, 6, 6, 6, 6, 6, 6, 6, 6, 6, 6, 6, 6, 6, 6] [7, 7, 7, 7, 7, 7, 7, 7, 7, 7, 7, 7, 7, 7, 7, 7, 7, 7, 7, 7, 7, 7, 7, 7, 7, 7, 7, 7, 7, 7, 7, 7, 7, 7, 7, 7, 7, 7, 7, 7, 7, 7, 7, 7, 7, 7, 7, 7, 7, 7, 7, 7, 7, 7, 7, 7, 7, 7, 7, 7, 7, 7, 7, 7]) (List.append [8, 8, 8, 8, 8, 8, 8, 8, 8, 8, 8, 8, 8, 8, 8, 8, 8, 8, 8, 8, 8, 8, 8, 8, 8, 8, 8, 8, 8, 8, 8, 8, 8, 8, 8, 8, 8, 8, 8, 8, 8, 8, 8, 8, 8, 8, 8, 8, 8, 8, 8, 8, 8, 8, 8, 8, 8, 8, 8, 8, 8, 8, 8, 8] [8, 8, 8, 8, 8, 8, 8, 8, 8, 8, 8, 8, 8, 8, 8, 8, 8, 8, 8, 8, 8, 8, 8, 8, 8, 8, 8, 8, 8, 8, 8, 8, 8, 8, 8, 8, 8, 8, 8, 8, 8, 8, 8, 8, 8, 8, 8, 8, 8, 8, 8, 8, 8, 8, 8, 8, 8, 8, 8, 8, 8, 8, 8, 8])) }) : Int)), true)] (len64_r5 x) (by kernel_rfl) h
noncomputable def len64_r6 (x : BitVec 64) : AV := AV.int IntKind.i64 false (IntKind.wrap IntKind.i64 (IntKind.wrap IntKind.i64 (0 + 8) + IntKind.wrap IntKind.i64 (strAt { data := List.toArray (List.append (List.append [0, 1, 2, 2, 3, 3, 3, 3, 4, 4, 4, 4, 4, 4, 4, 4, 5, 5, 5, 5, 5, 5, 5, 5, 5, 5, 5, 5, 5, 5, 5, 5, 6, 6, 6, 6, 6, 6, 6, 6, 6, 6, 6, 6, 6, 6, 6, 6, 6, 6, 6, 6, 6, 6, 6, 6, 6, 6, 6, 6, 6, 6, 6, 6] [7, 7, 7, 7, 7, 7, 7, 7, 7, 7, 7, 7, 7, 7, 7, 7, 7, 7, 7, 7, 7, 7, 7, 7, 7, 7, 7, 7, 7, 7, 7, 7, 7, 7, 7, 7, 7, 7, 7, 7, 7, 7, 7, 7, 7, 7, 7, 7, 7, 7, 7, 7, 7, 7, 7, 7, 7, 7, 7, 7, 7, 7, 7, 7]) (List.append [8, 8, 8, 8, 8, 8, 8, 8, 8, 8, 8, 8, 8, 8, 8, 8, 8, 8, 8, 8, 8, 8, 8, 8, 8, 8, 8, 8, 8, 8, 8, 8, 8, 8, 8, 8, 8, 8, 8, 8, 8, 8, 8, 8, 8, 8, 8, 8, 8, 8, 8, 8, 8, 8, 8, 8, 8, 8, 8, 8, 8, 8, 8, 8] [8, 8, 8, 8, 8, 8, 8, 8, 8, 8, 8, 8, 8, 8, 8, 8, 8, 8, 8, 8, 8, 8, 8, 8, 8, 8, 8, 8, 8, 8, 8, 8, 8, 8, 8, 8, 8, 8, 8, 8, 8, 8, 8, 8, 8, 8, 8, 8, 8, 8, 8, 8, 8, 8, 8, 8, 8, 8, 8, 8, 8, 8, 8, 8])) } (↑(BitVec.toNat (BitVec.setWidth 8 (x >>> Int.toNat 8))) : Int))))
theorem len64_6 (x : BitVec 64) (h : AllE [(Nat.ble (BitVec.toNat (BitVec.ofInt 64 4294967296)) (BitVec.toNat x), false), (Nat.ble (BitVec.toNat (BitVec.ofInt 64 65536)) (BitVec.toNat x), false), (Nat.ble (BitVec.toNat (BitVec.ofInt 64 256)) (BitVec.toNat x), true), (decide (0 ≤ (↑(BitVec.toNat (BitVec.setWidth 8 (x >>> Int.toNat 8))) : Int) ∧ (↑(BitVec.toNat (BitVec.setWidth 8 (x >>> Int.toNat 8))) : Int) < (↑(ByteArray.size { data := List.toArray (List.append (List.append [0, 1, 2, 2, 3, 3, 3, 3, 4, 4, 4, 4, 4, 4, 4, 4, 5, 5, 5, 5, 5, 5, 5, 5, 5, 5, 5, 5, 5, 5, 5, 5, 6, 6, 6, 6, 6, 6, 6, 6, 6, 6, 6, 6, 6, 6, 6, 6, 6, 6, 6, 6, 6, 6, 6, 6, 6, 6, 6, 6, 6, 6, 6, 6] [7, 7, 7, 7, 7, 7, 7, 7, 7, 7, 7, 7, 7, 7, 7, 7, 7, 7, 7, 7, 7, 7, 7, 7, 7, 7, 7, 7, 7, 7, 7, 7, 7, 7, 7, 7, 7, 7, 7, 7, 7, 7, 7, 7, 7, 7, 7, 7, 7, 7, 7, 7, 7, 7, 7, 7, 7, 7, 7, 7, 7, 7, 7, 7]) (List.append [8, 8, 8, 8, 8, 8, 8, 8, 8, 8, 8, 8, 8, 8, 8, 8, 8, 8, 8, 8, 8, 8, 8, 8, 8, 8, 8, 8, 8, 8, 8, 8, 8, 8, 8, 8, 8, 8, 8, 8, 8, 8, 8, 8, 8, 8, 8, 8, 8, 8, 8, 8, 8, 8, 8, 8, 8, 8, 8, 8, 8, 8, 8, 8] [8, 8, 8, 8, 8, 8, 8, 8, 8, 8, 8, 8, 8, 8, 8, 8, 8, 8, 8, 8, 8, 8, 8, 8, 8, 8, 8, 8, 8, 8, 8, 8, 8, 8, 8, 8, 8, 8, 8, 8, 8, 8, 8, 8, 8, 8, 8, 8, 8, 8, 8, 8, 8, 8, 8, 8, 8, 8, 8, 8, 8, 8, 8, 8])) }) : Int)), true)]) : Is (evCall (mkEnv noRows []) 60 44 [b64 x] ⟨[], [false, false, true], allW⟩ (fun v _ => v = len64_r6 x)) := ev_eq [(Nat.ble (BitVec.toNat (BitVec.ofInt 64 4294967296)) (BitVec.toNat x), false), (Nat.ble (BitVec.toNat (BitVec.ofInt 64 65536)) (BitVec.toNat x), false), (Nat.ble (BitVec.toNat (BitVec.ofInt 64 256)) (BitVec.toNat x), true), (decide (0 ≤ (↑(BitVec.toNat (BitVec.setWidth 8 (x >>> Int.toNat 8))) : Int) ∧ (↑(BitVec.toNat (BitVec.setWidth 8 (x >>> Int.toNat 8))) : Int) < (↑(ByteArray.size { data := List.toArray (List.append (List.append [0, 1, 2, 2, 3, 3, 3, 3, 4, 4, 4, 4, 4, 4, 4, 4, 5, 5, 5, 5, 5, 5, 5, 5, 5, 5, 5, 5, 5, 5, 5, 5, 6, 6, 6, 6, 6, 6, 6, 6, 6, 6, 6, 6, 6, 6, 6, 6, 6, 6, 6, 6, 6, 6, 6, 6, 6, 6, 6, 6, 6, 6, 6, 6] [7, 7, 7, 7, 7, 7, 7, 7, 7, 7, 7, 7, 7, 7, 7, 7, 7, 7, 7, 7, 7, 7, 7, 7, 7, 7, 7, 7, 7, 7, 7, 7, 7, 7, 7, 7, 7, 7, 7, 7, 7, 7, 7, 7, 7, 7, 7, 7, 7, 7, 7, 7, 7, 7, 7, 7, 7, 7, 7, 7, 7, 7, 7, 7]) (List.append [8, 8, 8, 8, 8, 8, 8, 8, 8, 8, 8, 8, 8, 8, 8, 8, 8, 8, 8, 8, 8, 8, 8, 8, 8, 8, 8, 8, 8, 8, 8, 8, 8, 8, 8, 8, 8, 8, 8, 8, 8, 8, 8, 8, 8, 8, 8, 8, 8, 8, 8, 8, 8, 8, 8, 8, 8, 8, 8, 8, 8, 8, 8, 8] [8, 8, 8, 8, 8, 8, 8, 8, 8, 8, 8, 8, 8, 8, 8, 8, 8, 8, 8, 8, 8, 8, 8, 8, 8, 8, 8, 8, 8, 8, 8, 8, 8, 8, 8, 8, 8, 8, 8, 8, 8, 8, 8, 8, 8, 8, 8, 8, 8, 8, 8, 8, 8, 8, 8, 8, 8, 8, 8, 8, 8, 8, 8, 8])) }) : Int)), true)] (len64_r6 x) (by kernel_rfl) h
noncomputable def len64_r7 (x : BitVec 64) : AV := AV.int IntKind.i64 false (IntKind.wrap IntKind.i64 (0 + IntKind.wrap IntKind.i64 (strAt { data := List.toArray (List.append (List.append [0, 1, 2, 2, 3, 3, 3, 3, 4, 4, 4, 4, 4, 4, 4, 4, 5, 5, 5, 5, 5, 5, 5, 5, 5, 5, 5, 5, 5, 5, 5, 5, 6, 6, 6, 6, 6, 6, 6, 6, 6, 6, 6, 6, 6, 6, 6, 6, 6, 6, 6, 6, 6, 6, 6, 6, 6, 6, 6, 6, 6, 6, 6, 6] [7, 7, 7, 7, 7, 7, 7, 7, 7, 7, 7, 7, 7, 7, 7, 7, 7, 7, 7, 7, 7, 7, 7, 7, 7, 7, 7, 7, 7, 7, 7, 7, 7, 7, 7, 7, 7, 7, 7, 7, 7, 7, 7, 7, 7, 7, 7, 7, 7, 7, 7, 7, 7, 7, 7, 7, 7, 7, 7, 7, 7, 7, 7, 7]) (List.append [8, 8, 8, 8, 8, 8, 8, 8, 8, 8, 8, 8, 8, 8, 8, 8, 8, 8, 8, 8, 8, 8, 8, 8, 8, 8, 8, 8, 8, 8, 8, 8, 8, 8, 8, 8, 8, 8, 8, 8, 8, 8, 8, 8, 8, 8, 8, 8, 8, 8, 8, 8, 8, 8, 8, 8, 8, 8, 8, 8, 8, 8, 8, 8] [8, 8, 8, 8, 8, 8, 8, 8, 8, 8, 8, 8, 8, 8, 8, 8, 8, 8, 8, 8, 8, 8, 8, 8, 8, 8, 8, 8, 8, 8, 8, 8, 8, 8, 8, 8, 8, 8, 8, 8, 8, 8, 8, 8, 8, 8, 8, 8, 8, 8, 8, 8, 8, 8, 8, 8, 8, 8, 8, 8, 8, 8, 8, 8])) } (↑(BitVec.toNat (BitVec.setWidth 8 x)) : Int))))
theorem len64_7 (x : BitVec 64) (h : AllE [(Nat.ble (BitVec.toNat (BitVec.ofInt 64 4294967296)) (BitVec.toNat x), false), (Nat.ble (BitVec.toNat (BitVec.ofInt 64 65536)) (BitVec.toNat x), false), (Nat.ble (BitVec.toNat (BitVec.ofInt 64 256)) (BitVec.toNat x), false), (decide (0 ≤ (↑(BitVec.toNat (BitVec.setWidth 8 x)) : Int) ∧ (↑(BitVec.toNat (BitVec.setWidth 8 x)) : Int) < (↑(ByteArray.size { data := List.toArray (List.append (List.append [0, 1, 2, 2, 3, 3, 3, 3, 4, 4, 4, 4, 4, 4, 4, 4, 5, 5, 5, 5, 5, 5, 5, 5, 5, 5, 5, 5, 5, 5, 5, 5, 6, 6, 6, 6, 6, 6, 6, 6, 6, 6, 6, 6, 6, 6, 6, 6, 6, 6, 6, 6, 6, 6, 6, 6, 6, 6, 6, 6, 6, 6, 6, 6] [7, 7, 7, 7, 7, 7, 7, 7, 7, 7, 7, 7, 7, 7, 7, 7, 7, 7, 7, 7, 7, 7, 7, 7, 7, 7, 7, 7, 7, 7, 7, 7, 7, 7, 7, 7, 7, 7, 7, 7, 7, 7, 7, 7, 7, 7, 7, 7, 7, 7, 7, 7, 7, 7, 7, 7, 7, 7, 7, 7, 7, 7, 7, 7]) (List.append [8, 8, 8, 8, 8, 8, 8, 8, 8, 8, 8, 8, 8, 8, 8, 8, 8, 8, 8, 8, 8, 8, 8, 8, 8, 8, 8, 8, 8, 8, 8, 8, 8, 8, 8, 8, 8, 8, 8, 8, 8, 8, 8, 8, 8, 8, 8, 8, 8, 8, 8, 8, 8, 8, 8, 8, 8, 8, 8, 8, 8, 8, 8, 8] [8, 8, 8, 8, 8, 8, 8, 8, 8, 8, 8, 8, 8, 8, 8, 8, 8, 8, 8, 8, 8, 8, 8, 8, 8, 8, 8, 8, 8, 8, 8, 8, 8, 8, 8, 8, 8, 8, 8, 8, 8, 8, 8, 8, 8, 8, 8, 8, 8, 8, 8, 8, 8, 8, 8, 8, 8, 8, 8, 8, 8, 8, 8, 8])) }) : Int)), true)]) : Is (evCall (mkEnv noRows []) 60 44 [b64 x] ⟨[], [false, false, false], allW⟩ (fun v _ => v = len64_r7 x)) := ev_eq [(Nat.ble (BitVec.toNat (BitVec.ofInt 64 4294967296)) (BitVec.toNat x), false), (Nat.ble (BitVec.toNat (BitVec.ofInt 64 65536)) (BitVec.toNat x), false), (Nat.ble (BitVec.toNat (BitVec.ofInt 64 256)) (BitVec.toNat x), false), (decide (0 ≤ (↑(BitVec.toNat (BitVec.setWidth 8 x)) : Int) ∧ (↑(BitVec.toNat (BitVec.setWidth 8 x)) : Int) < (↑(ByteArray.size { data := List.toArray (List.append (List.append [0, 1, 2, 2, 3, 3, 3, 3, 4, 4, 4, 4, 4, 4, 4, 4, 5, 5, 5, 5, 5, 5, 5, 5, 5, 5, 5, 5, 5, 5, 5, 5, 6, 6, 6, 6, 6, 6, 6, 6, 6, 6, 6, 6, 6, 6, 6, 6, 6, 6, 6, 6, 6, 6, 6, 6, 6, 6, 6, 6, 6, 6, 6, 6] [7, 7, 7, 7, 7, 7, 7, 7, 7, 7, 7, 7, 7, 7, 7, 7, 7, 7, 7, 7, 7, 7, 7, 7, 7, 7, 7, 7, 7, 7, 7, 7, 7, 7, 7, 7, 7, 7, 7, 7, 7, 7, 7, 7, 7, 7, 7, 7, 7, 7, 7, 7, 7, 7, 7, 7, 7, 7, 7, 7, 7, 7, 7, 7]) (List.append [8, 8, 8, 8, 8, 8, 8, 8, 8, 8, 8, 8, 8, 8, 8, 8, 8, 8, 8, 8, 8, 8, 8, 8, 8, 8, 8, 8, 8, 8, 8, 8, 8, 8, 8, 8, 8, 8, 8, 8, 8, 8, 8, 8, 8, 8, 8, 8, 8, 8, 8, 8, 8, 8, 8, 8, 8, 8, 8, 8, 8, 8, 8, 8] [8, 8, 8, 8, 8, 8, 8, 8, 8, 8, 8, 8, 8, 8, 8, 8, 8, 8, 8, 8, 8, 8, 8, 8, 8, 8, 8, 8, 8, 8, 8, 8, 8, 8, 8, 8, 8, 8, 8, 8, 8, 8, 8, 8, 8, 8, 8, 8, 8, 8, 8, 8, 8, 8, 8, 8, 8, 8, 8, 8, 8, 8, 8, 8])) }) : Int)), true)] (len64_r7 x) (by kernel_rfl) h
set_option maxHeartbeats 4000000 in
theorem len64_any (x : BitVec 64)  (w : World) : Calls Tryd.prog 44 #[.int .u64 (x.toNat : Int)] w fun e w' => e = .returned (.int .i64 (lenN x.toNat)) ∧ Below w.heap.size w w' := by
  have htab : ∀ n : Nat, n < 256 → strAt { data := List.toArray (List.append (List.append [0, 1, 2, 2, 3, 3, 3, 3, 4, 4, 4, 4, 4, 4, 4, 4, 5, 5, 5, 5, 5, 5, 5, 5, 5, 5, 5, 5, 5, 5, 5, 5, 6, 6, 6, 6, 6, 6, 6, 6, 6, 6, 6, 6, 6, 6, 6, 6, 6, 6, 6, 6, 6, 6, 6, 6, 6, 6, 6, 6, 6, 6, 6, 6] [7, 7, 7, 7, 7, 7, 7, 7, 7, 7, 7, 7, 7, 7, 7, 7, 7, 7, 7, 7, 7, 7, 7, 7, 7, 7, 7, 7, 7, 7, 7, 7, 7, 7, 7, 7, 7, 7, 7, 7, 7, 7, 7, 7, 7, 7, 7, 7, 7, 7, 7, 7, 7, 7, 7, 7, 7, 7, 7, 7, 7, 7, 7, 7]) (List.append [8, 8, 8, 8, 8, 8, 8, 8, 8, 8, 8, 8, 8, 8, 8, 8, 8, 8, 8, 8, 8, 8, 8, 8, 8, 8, 8, 8, 8, 8, 8, 8, 8, 8, 8, 8, 8, 8, 8, 8, 8, 8, 8, 8, 8, 8, 8, 8, 8, 8, 8, 8, 8, 8, 8, 8, 8, 8, 8, 8, 8, 8, 8, 8] [8, 8, 8, 8, 8, 8, 8, 8, 8, 8, 8, 8, 8, 8, 8, 8, 8, 8, 8, 8, 8, 8, 8, 8, 8, 8, 8, 8, 8, 8, 8, 8, 8, 8, 8, 8, 8, 8, 8, 8, 8, 8, 8, 8, 8, 8, 8, 8, 8, 8, 8, 8, 8, 8, 8, 8, 8, 8, 8, 8, 8, 8, 8, 8])) } (n : Int) = (lenN n : Int) := fun n hn => by
    have h : ∀ m : Fin 256, strAt { data := List.toArray (List.append (List.append [0, 1, 2, 2, 3, 3, 3, 3, 4, 4, 4, 4, 4, 4, 4, 4, 5, 5, 5, 5, 5, 5, 5, 5, 5, 5, 5, 5, 5, 5, 5, 5, 6, 6, 6, 6, 6, 6, 6, 6, 6, 6, 6, 6, 6, 6, 6, 6, 6, 6, 6, 6, 6, 6, 6, 6, 6, 6, 6, 6, 6, 6, 6, 6] [7, 7, 7, 7, 7, 7, 7, 7, 7, 7, 7, 7, 7, 7, 7, 7, 7, 7, 7, 7, 7, 7, 7, 7, 7, 7, 7, 7, 7, 7, 7, 7, 7, 7, 7, 7, 7, 7, 7, 7, 7, 7, 7, 7, 7, 7, 7, 7, 7, 7, 7, 7, 7, 7, 7, 7, 7, 7, 7, 7, 7, 7, 7, 7]) (List.append [8, 8, 8, 8, 8, 8, 8, 8, 8, 8, 8, 8, 8, 8, 8, 8, 8, 8, 8, 8, 8, 8, 8, 8, 8, 8, 8, 8, 8, 8, 8, 8, 8, 8, 8, 8, 8, 8, 8, 8, 8, 8, 8, 8, 8, 8, 8, 8, 8, 8, 8, 8, 8, 8, 8, 8, 8, 8, 8, 8, 8, 8, 8, 8] [8, 8, 8, 8, 8, 8, 8, 8, 8, 8, 8, 8, 8, 8, 8, 8, 8, 8, 8, 8, 8, 8, 8, 8, 8, 8, 8, 8, 8, 8, 8, 8, 8, 8, 8, 8, 8, 8, 8, 8, 8, 8, 8, 8, 8, 8, 8, 8, 8, 8, 8, 8, 8, 8, 8, 8, 8, 8, 8, 8, 8, 8, 8, 8])) } (m.val : Int) = (lenN m.val : Int) := by decide +kernel
    exact h ⟨n, hn⟩
  have hx := x.isLt
  rcases h0 : (Nat.ble (BitVec.toNat (BitVec.ofInt 64 4294967296)) (BitVec.toNat x)) with _ | _
  · rcases h1 : (Nat.ble (BitVec.toNat (BitVec.ofInt 64 65536)) (BitVec.toNat x)) with _ | _
    · rcases h2 : (Nat.ble (BitVec.toNat (BitVec.ofInt 64 256)) (BitVec.toNat x)) with _ | _
      · have g0 : ¬ 4294967296 ≤ x.toNat / 2 ^ 0 := by have hq := h0; rw [ble_dec] at hq; have e : (BitVec.ofInt 64 4294967296 : BitVec 64).toNat = 4294967296 := (by decide); rw [e] at hq; simpa using hq
        have g1 : ¬ 65536 ≤ x.toNat / 2 ^ 0 := by have hq := h1; rw [ble_dec] at hq; have e : (BitVec.ofInt 64 65536 : BitVec 64).toNat = 65536 := (by decide); rw [e] at hq; simpa using hq
        have g2 : ¬ 256 ≤ x.toNat / 2 ^ 0 := by have hq := h2; rw [ble_dec] at hq; have e : (BitVec.ofInt 64 256 : BitVec 64).toNat = 256 := (by decide); rw [e] at hq; simpa using hq
        have gv : (((BitVec.setWidth 8 (x)).toNat : Nat) : Int) = ((x.toNat / 2 ^ 0 : Nat) : Int) := by simp [BitVec.toNat_ushiftRight, Nat.shiftRight_eq_div_pow, Nat.div_div_eq_div_mul]; omega
        have gl : lenN x.toNat = 0 + lenN (x.toNat / 2 ^ 0) := by simp
        have gb : x.toNat / 2 ^ 0 < 256 := by omega
        have gm : ∀ n : Nat, n < 256 → lenN n ≤ 8 := by decide +kernel
        have gn := gm _ gb
        have hV : (len64_r7 x).told? = some (.int .i64 (lenN x.toNat)) := congrArg some (by show Value.int .i64 (IntKind.wrap IntKind.i64 (0 + IntKind.wrap IntKind.i64 (strAt { data := List.toArray (List.append (List.append [0, 1, 2, 2, 3, 3, 3, 3, 4, 4, 4, 4, 4, 4, 4, 4, 5, 5, 5, 5, 5, 5, 5, 5, 5, 5, 5, 5, 5, 5, 5, 5, 6, 6, 6, 6, 6, 6, 6, 6, 6, 6, 6, 6, 6, 6, 6, 6, 6, 6, 6, 6, 6, 6, 6, 6, 6, 6, 6, 6, 6, 6, 6, 6] [7, 7, 7, 7, 7, 7, 7, 7, 7, 7, 7, 7, 7, 7, 7, 7, 7, 7, 7, 7, 7, 7, 7, 7, 7, 7, 7, 7, 7, 7, 7, 7, 7, 7, 7, 7, 7, 7, 7, 7, 7, 7, 7, 7, 7, 7, 7, 7, 7, 7, 7, 7, 7, 7, 7, 7, 7, 7, 7, 7, 7, 7, 7, 7]) (List.append [8, 8, 8, 8, 8, 8, 8, 8, 8, 8, 8, 8, 8, 8, 8, 8, 8, 8, 8, 8, 8, 8, 8, 8, 8, 8, 8, 8, 8, 8, 8, 8, 8, 8, 8, 8, 8, 8, 8, 8, 8, 8, 8, 8, 8, 8, 8, 8, 8, 8, 8, 8, 8, 8, 8, 8, 8, 8, 8, 8, 8, 8, 8, 8] [8, 8, 8, 8, 8, 8, 8, 8, 8, 8, 8, 8, 8, 8, 8, 8, 8, 8, 8, 8, 8, 8, 8, 8, 8, 8, 8, 8, 8, 8, 8, 8, 8, 8, 8, 8, 8, 8, 8, 8, 8, 8, 8, 8, 8, 8, 8, 8, 8, 8, 8, 8, 8, 8, 8, 8, 8, 8, 8, 8, 8, 8, 8, 8])) } (((BitVec.setWidth 8 (x)).toNat : Nat) : Int)))) = _; rw [gv, htab _ gb, show (0 : Int) = 0 by decide, IntWalk.i64_in ((lenN (x.toNat / 2 ^ 0) : Nat) : Int) (by omega), IntWalk.i64_in _ (by omega), gl]; congr 1)
        exact ev_callsI E0_ok 60 (len64_7 x (allE_cons h0 (allE_cons h1 (allE_cons h2 (allE_cons (decide_eq_true (by rw [gv]; exact ⟨by omega, Int.lt_of_lt_of_le (Int.ofNat_lt.2 gb) (by decide)⟩)) allE_nil))))) hV (.cons (.bv rfl) .nil) rfl w
      · have g0 : ¬ 4294967296 ≤ x.toNat / 2 ^ 0 := by have hq := h0; rw [ble_dec] at hq; have e : (BitVec.ofInt 64 4294967296 : BitVec 64).toNat = 4294967296 := (by decide); rw [e] at hq; simpa using hq
        have g1 : ¬ 65536 ≤ x.toNat / 2 ^ 0 := by have hq := h1; rw [ble_dec] at hq; have e : (BitVec.ofInt 64 65536 : BitVec 64).toNat = 65536 := (by decide); rw [e] at hq; simpa using hq
        have g2 : 256 ≤ x.toNat / 2 ^ 0 := by have hq := h2; rw [ble_dec] at hq; have e : (BitVec.ofInt 64 256 : BitVec 64).toNat = 256 := (by decide); rw [e] at hq; simpa using hq
        have gv : (((BitVec.setWidth 8 (x >>> Int.toNat 8)).toNat : Nat) : Int) = ((x.toNat / 2 ^ 8 : Nat) : Int) := by simp [BitVec.toNat_ushiftRight, Nat.shiftRight_eq_div_pow, Nat.div_div_eq_div_mul]; omega
        have gl : lenN x.toNat = 8 + lenN (x.toNat / 2 ^ 8) := lenN_div (by omega)
        have gb : x.toNat / 2 ^ 8 < 256 := by omega
        have gm : ∀ n : Nat, n < 256 → lenN n ≤ 8 := by decide +kernel
        have gn := gm _ gb
        have hV : (len64_r6 x).told? = some (.int .i64 (lenN x.toNat)) := congrArg some (by show Value.int .i64 (IntKind.wrap IntKind.i64 (IntKind.wrap IntKind.i64 (0 + 8) + IntKind.wrap IntKind.i64 (strAt { data := List.toArray (List.append (List.append [0, 1, 2, 2, 3, 3, 3, 3, 4, 4, 4, 4, 4, 4, 4, 4, 5, 5, 5, 5, 5, 5, 5, 5, 5, 5, 5, 5, 5, 5, 5, 5, 6, 6, 6, 6, 6, 6, 6, 6, 6, 6, 6, 6, 6, 6, 6, 6, 6, 6, 6, 6, 6, 6, 6, 6, 6, 6, 6, 6, 6, 6, 6, 6] [7, 7, 7, 7, 7, 7, 7, 7, 7, 7, 7, 7, 7, 7, 7, 7, 7, 7, 7, 7, 7, 7, 7, 7, 7, 7, 7, 7, 7, 7, 7, 7, 7, 7, 7, 7, 7, 7, 7, 7, 7, 7, 7, 7, 7, 7, 7, 7, 7, 7, 7, 7, 7, 7, 7, 7, 7, 7, 7, 7, 7, 7, 7, 7]) (List.append [8, 8, 8, 8, 8, 8, 8, 8, 8, 8, 8, 8, 8, 8, 8, 8, 8, 8, 8, 8, 8, 8, 8, 8, 8, 8, 8, 8, 8, 8, 8, 8, 8, 8, 8, 8, 8, 8, 8, 8, 8, 8, 8, 8, 8, 8, 8, 8, 8, 8, 8, 8, 8, 8, 8, 8, 8, 8, 8, 8, 8, 8, 8, 8] [8, 8, 8, 8, 8, 8, 8, 8, 8, 8, 8, 8, 8, 8, 8, 8, 8, 8, 8, 8, 8, 8, 8, 8, 8, 8, 8, 8, 8, 8, 8, 8, 8, 8, 8, 8, 8, 8, 8, 8, 8, 8, 8, 8, 8, 8, 8, 8, 8, 8, 8, 8, 8, 8, 8, 8, 8, 8, 8, 8, 8, 8, 8, 8])) } (((BitVec.setWidth 8 (x >>> Int.toNat 8)).toNat : Nat) : Int)))) = _; rw [gv, htab _ gb, show (IntKind.wrap IntKind.i64 (0 + 8) : Int) = 8 by decide, IntWalk.i64_in ((lenN (x.toNat / 2 ^ 8) : Nat) : Int) (by omega), IntWalk.i64_in _ (by omega), gl]; congr 1)
        exact ev_callsI E0_ok 60 (len64_6 x (allE_cons h0 (allE_cons h1 (allE_cons h2 (allE_cons (decide_eq_true (by rw [gv]; exact ⟨by omega, Int.lt_of_lt_of_le (Int.ofNat_lt.2 gb) (by decide)⟩)) allE_nil))))) hV (.cons (.bv rfl) .nil) rfl w
    · rcases h2 : (Nat.ble (BitVec.toNat (BitVec.ofInt 64 256)) (BitVec.toNat (x >>> Int.toNat 16))) with _ | _
      · have g0 : ¬ 4294967296 ≤ x.toNat / 2 ^ 0 := by have hq := h0; rw [ble_dec] at hq; have e : (BitVec.ofInt 64 4294967296 : BitVec 64).toNat = 4294967296 := (by decide); rw [e] at hq; simpa using hq
        have g1 : 65536 ≤ x.toNat / 2 ^ 0 := by have hq := h1; rw [ble_dec] at hq; have e : (BitVec.ofInt 64 65536 : BitVec 64).toNat = 65536 := (by decide); rw [e] at hq; simpa using hq
        have g2 : ¬ 256 ≤ x.toNat / 2 ^ 16 := by have hq := h2; rw [ble_dec] at hq; have e : (BitVec.ofInt 64 256 : BitVec 64).toNat = 256 := (by decide); rw [e, show (x >>> Int.toNat 16).toNat = x.toNat / 2 ^ 16 from by simp [BitVec.toNat_ushiftRight, Nat.shiftRight_eq_div_pow, Nat.div_div_eq_div_mul]] at hq; simpa using hq
        have gv : (((BitVec.setWidth 8 (x >>> Int.toNat 16)).toNat : Nat) : Int) = ((x.toNat / 2 ^ 16 : Nat) : Int) := by simp [BitVec.toNat_ushiftRight, Nat.shiftRight_eq_div_pow, Nat.div_div_eq_div_mul]; omega
        have gl : lenN x.toNat = 16 + lenN (x.toNat / 2 ^ 16) := lenN_div (by omega)
        have gb : x.toNat / 2 ^ 16 < 256 := by omega
        have gm : ∀ n : Nat, n < 256 → lenN n ≤ 8 := by decide +kernel
        have gn := gm _ gb
        have hV : (len64_r5 x).told? = some (.int .i64 (lenN x.toNat)) := congrArg some (by show Value.int .i64 (IntKind.wrap IntKind.i64 (IntKind.wrap IntKind.i64 (0 + 16) + IntKind.wrap IntKind.i64 (strAt { data := List.toArray (List.append (List.append [0, 1, 2, 2, 3, 3, 3, 3, 4, 4, 4, 4, 4, 4, 4, 4, 5, 5, 5, 5, 5, 5, 5, 5, 5, 5, 5, 5, 5, 5, 5, 5, 6, 6, 6, 6, 6, 6, 6, 6, 6, 6, 6, 6, 6, 6, 6, 6, 6, 6, 6, 6, 6, 6, 6, 6, 6, 6, 6, 6, 6, 6, 6, 6] [7, 7, 7, 7, 7, 7, 7, 7, 7, 7, 7, 7, 7, 7, 7, 7, 7, 7, 7, 7, 7, 7, 7, 7, 7, 7, 7, 7, 7, 7, 7, 7, 7, 7, 7, 7, 7, 7, 7, 7, 7, 7, 7, 7, 7, 7, 7, 7, 7, 7, 7, 7, 7, 7, 7, 7, 7, 7, 7, 7, 7, 7, 7, 7]) (List.append [8, 8, 8, 8, 8, 8, 8, 8, 8, 8, 8, 8, 8, 8, 8, 8, 8, 8, 8, 8, 8, 8, 8, 8, 8, 8, 8, 8, 8, 8, 8, 8, 8, 8, 8, 8, 8, 8, 8, 8, 8, 8, 8, 8, 8, 8, 8, 8, 8, 8, 8, 8, 8, 8, 8, 8, 8, 8, 8, 8, 8, 8, 8, 8] [8, 8, 8, 8, 8, 8, 8, 8, 8, 8, 8, 8, 8, 8, 8, 8, 8, 8, 8, 8, 8, 8, 8, 8, 8, 8, 8, 8, 8, 8, 8, 8, 8, 8, 8, 8, 8, 8, 8, 8, 8, 8, 8, 8, 8, 8, 8, 8, 8, 8, 8, 8, 8, 8, 8, 8, 8, 8, 8, 8, 8, 8, 8, 8])) } (((BitVec.setWidth 8 (x >>> Int.toNat 16)).toNat : Nat) : Int)))) = _; rw [gv, htab _ gb, show (IntKind.wrap IntKind.i64 (0 + 16) : Int) = 16 by decide, IntWalk.i64_in ((lenN (x.toNat / 2 ^ 16) : Nat) : Int) (by omega), IntWalk.i64_in _ (by omega), gl]; congr 1)
        exact ev_callsI E0_ok 60 (len64_5 x (allE_cons h0 (allE_cons h1 (allE_cons h2 (allE_cons (decide_eq_true (by rw [gv]; exact ⟨by omega, Int.lt_of_lt_of_le (Int.ofNat_lt.2 gb) (by decide)⟩)) allE_nil))))) hV (.cons (.bv rfl) .nil) rfl w
      · have g0 : ¬ 4294967296 ≤ x.toNat / 2 ^ 0 := by have hq := h0; rw [ble_dec] at hq; have e : (BitVec.ofInt 64 4294967296 : BitVec 64).toNat = 4294967296 := (by decide); rw [e] at hq; simpa using hq
        have g1 : 65536 ≤ x.toNat / 2 ^ 0 := by have hq := h1; rw [ble_dec] at hq; have e : (BitVec.ofInt 64 65536 : BitVec 64).toNat = 65536 := (by decide); rw [e] at hq; simpa using hq
        have g2 : 256 ≤ x.toNat / 2 ^ 16 := by have hq := h2; rw [ble_dec] at hq; have e : (BitVec.ofInt 64 256 : BitVec 64).toNat = 256 := (by decide); rw [e, show (x >>> Int.toNat 16).toNat = x.toNat / 2 ^ 16 from by simp [BitVec.toNat_ushiftRight, Nat.shiftRight_eq_div_pow, Nat.div_div_eq_div_mul]] at hq; simpa using hq
        have gv : (((BitVec.setWidth 8 (x >>> Int.toNat 16 >>> Int.toNat 8)).toNat : Nat) : Int) = ((x.toNat / 2 ^ 24 : Nat) : Int) := by simp [BitVec.toNat_ushiftRight, Nat.shiftRight_eq_div_pow, Nat.div_div_eq_div_mul]; omega
        have gl : lenN x.toNat = 24 + lenN (x.toNat / 2 ^ 24) := lenN_div (by omega)
        have gb : x.toNat / 2 ^ 24 < 256 := by omega
        have gm : ∀ n : Nat, n < 256 → lenN n ≤ 8 := by decide +kernel
        have gn := gm _ gb
        have hV : (len64_r4 x).told? = some (.int .i64 (lenN x.toNat)) := congrArg some (by show Value.int .i64 (IntKind.wrap IntKind.i64 (IntKind.wrap IntKind.i64 (IntKind.wrap IntKind.i64 (0 + 16) + 8) + IntKind.wrap IntKind.i64 (strAt { data := List.toArray (List.append (List.append [0, 1, 2, 2, 3, 3, 3, 3, 4, 4, 4, 4, 4, 4, 4, 4, 5, 5, 5, 5, 5, 5, 5, 5, 5, 5, 5, 5, 5, 5, 5, 5, 6, 6, 6, 6, 6, 6, 6, 6, 6, 6, 6, 6, 6, 6, 6, 6, 6, 6, 6, 6, 6, 6, 6, 6, 6, 6, 6, 6, 6, 6, 6, 6] [7, 7, 7, 7, 7, 7, 7, 7, 7, 7, 7, 7, 7, 7, 7, 7, 7, 7, 7, 7, 7, 7, 7, 7, 7, 7, 7, 7, 7, 7, 7, 7, 7, 7, 7, 7, 7, 7, 7, 7, 7, 7, 7, 7, 7, 7, 7, 7, 7, 7, 7, 7, 7, 7, 7, 7, 7, 7, 7, 7, 7, 7, 7, 7]) (List.append [8, 8, 8, 8, 8, 8, 8, 8, 8, 8, 8, 8, 8, 8, 8, 8, 8, 8, 8, 8, 8, 8, 8, 8, 8, 8, 8, 8, 8, 8, 8, 8, 8, 8, 8, 8, 8, 8, 8, 8, 8, 8, 8, 8, 8, 8, 8, 8, 8, 8, 8, 8, 8, 8, 8, 8, 8, 8, 8, 8, 8, 8, 8, 8] [8, 8, 8, 8, 8, 8, 8, 8, 8, 8, 8, 8, 8, 8, 8, 8, 8, 8, 8, 8, 8, 8, 8, 8, 8, 8, 8, 8, 8, 8, 8, 8, 8, 8, 8, 8, 8, 8, 8, 8, 8, 8, 8, 8, 8, 8, 8, 8, 8, 8, 8, 8, 8, 8, 8, 8, 8, 8, 8, 8, 8, 8, 8, 8])) } (((BitVec.setWidth 8 (x >>> Int.toNat 16 >>> Int.toNat 8)).toNat : Nat) : Int)))) = _; rw [gv, htab _ gb, show (IntKind.wrap IntKind.i64 (IntKind.wrap IntKind.i64 (0 + 16) + 8) : Int) = 24 by decide, IntWalk.i64_in ((lenN (x.toNat / 2 ^ 24) : Nat) : Int) (by omega), IntWalk.i64_in _ (by omega), gl]; congr 1)
        exact ev_callsI E0_ok 60 (len64_4 x (allE_cons h0 (allE_cons h1 (allE_cons h2 (allE_cons (decide_eq_true (by rw [gv]; exact ⟨by omega, Int.lt_of_lt_of_le (Int.ofNat_lt.2 gb) (by decide)⟩)) allE_nil))))) hV (.cons (.bv rfl) .nil) rfl w
  · rcases h1 : (Nat.ble (BitVec.toNat (BitVec.ofInt 64 65536)) (BitVec.toNat (x >>> Int.toNat 32))) with _ | _
    · rcases h2 : (Nat.ble (BitVec.toNat (BitVec.ofInt 64 256)) (BitVec.toNat (x >>> Int.toNat 32))) with _ | _
      · have g0 : 4294967296 ≤ x.toNat / 2 ^ 0 := by have hq := h0; rw [ble_dec] at hq; have e : (BitVec.ofInt 64 4294967296 : BitVec 64).toNat = 4294967296 := (by decide); rw [e] at hq; simpa using hq
        have g1 : ¬ 65536 ≤ x.toNat / 2 ^ 32 := by have hq := h1; rw [ble_dec] at hq; have e : (BitVec.ofInt 64 65536 : BitVec 64).toNat = 65536 := (by decide); rw [e, show (x >>> Int.toNat 32).toNat = x.toNat / 2 ^ 32 from by simp [BitVec.toNat_ushiftRight, Nat.shiftRight_eq_div_pow, Nat.div_div_eq_div_mul]] at hq; simpa using hq
        have g2 : ¬ 256 ≤ x.toNat / 2 ^ 32 := by have hq := h2; rw [ble_dec] at hq; have e : (BitVec.ofInt 64 256 : BitVec 64).toNat = 256 := (by decide); rw [e, show (x >>> Int.toNat 32).toNat = x.toNat / 2 ^ 32 from by simp [BitVec.toNat_ushiftRight, Nat.shiftRight_eq_div_pow, Nat.div_div_eq_div_mul]] at hq; simpa using hq
        have gv : (((BitVec.setWidth 8 (x >>> Int.toNat 32)).toNat : Nat) : Int) = ((x.toNat / 2 ^ 32 : Nat) : Int) := by simp [BitVec.toNat_ushiftRight, Nat.shiftRight_eq_div_pow, Nat.div_div_eq_div_mul]; omega
        have gl : lenN x.toNat = 32 + lenN (x.toNat / 2 ^ 32) := lenN_div (by omega)
        have gb : x.toNat / 2 ^ 32 < 256 := by omega
        have gm : ∀ n : Nat, n < 256 → lenN n ≤ 8 := by decide +kernel
        have gn := gm _ gb
        have hV : (len64_r3 x).told? = some (.int .i64 (lenN x.toNat)) := congrArg some (by show Value.int .i64 (IntKind.wrap IntKind.i64 (32 + IntKind.wrap IntKind.i64 (strAt { data := List.toArray (List.append (List.append [0, 1, 2, 2, 3, 3, 3, 3, 4, 4, 4, 4, 4, 4, 4, 4, 5, 5, 5, 5, 5, 5, 5, 5, 5, 5, 5, 5, 5, 5, 5, 5, 6, 6, 6, 6, 6, 6, 6, 6, 6, 6, 6, 6, 6, 6, 6, 6, 6, 6, 6, 6, 6, 6, 6, 6, 6, 6, 6, 6, 6, 6, 6, 6] [7, 7, 7, 7, 7, 7, 7, 7, 7, 7, 7, 7, 7, 7, 7, 7, 7, 7, 7, 7, 7, 7, 7, 7, 7, 7, 7, 7, 7, 7, 7, 7, 7, 7, 7, 7, 7, 7, 7, 7, 7, 7, 7, 7, 7, 7, 7, 7, 7, 7, 7, 7, 7, 7, 7, 7, 7, 7, 7, 7, 7, 7, 7, 7]) (List.append [8, 8, 8, 8, 8, 8, 8, 8, 8, 8, 8, 8, 8, 8, 8, 8, 8, 8, 8, 8, 8, 8, 8, 8, 8, 8, 8, 8, 8, 8, 8, 8, 8, 8, 8, 8, 8, 8, 8, 8, 8, 8, 8, 8, 8, 8, 8, 8, 8, 8, 8, 8, 8, 8, 8, 8, 8, 8, 8, 8, 8, 8, 8, 8] [8, 8, 8, 8, 8, 8, 8, 8, 8, 8, 8, 8, 8, 8, 8, 8, 8, 8, 8, 8, 8, 8, 8, 8, 8, 8, 8, 8, 8, 8, 8, 8, 8, 8, 8, 8, 8, 8, 8, 8, 8, 8, 8, 8, 8, 8, 8, 8, 8, 8, 8, 8, 8, 8, 8, 8, 8, 8, 8, 8, 8, 8, 8, 8])) } (((BitVec.setWidth 8 (x >>> Int.toNat 32)).toNat : Nat) : Int)))) = _; rw [gv, htab _ gb, show (32 : Int) = 32 by decide, IntWalk.i64_in ((lenN (x.toNat / 2 ^ 32) : Nat) : Int) (by omega), IntWalk.i64_in _ (by omega), gl]; congr 1)
        exact ev_callsI E0_ok 60 (len64_3 x (allE_cons h0 (allE_cons h1 (allE_cons h2 (allE_cons (decide_eq_true (by rw [gv]; exact ⟨by omega, Int.lt_of_lt_of_le (Int.ofNat_lt.2 gb) (by decide)⟩)) allE_nil))))) hV (.cons (.bv rfl) .nil) rfl w
      · have g0 : 4294967296 ≤ x.toNat / 2 ^ 0 := by have hq := h0; rw [ble_dec] at hq; have e : (BitVec.ofInt 64 4294967296 : BitVec 64).toNat = 4294967296 := (by decide); rw [e] at hq; simpa using hq
        have g1 : ¬ 65536 ≤ x.toNat / 2 ^ 32 := by have hq := h1; rw [ble_dec] at hq; have e : (BitVec.ofInt 64 65536 : BitVec 64).toNat = 65536 := (by decide); rw [e, show (x >>> Int.toNat 32).toNat = x.toNat / 2 ^ 32 from by simp [BitVec.toNat_ushiftRight, Nat.shiftRight_eq_div_pow, Nat.div_div_eq_div_mul]] at hq; simpa using hq
        have g2 : 256 ≤ x.toNat / 2 ^ 32 := by have hq := h2; rw [ble_dec] at hq; have e : (BitVec.ofInt 64 256 : BitVec 64).toNat = 256 := (by decide); rw [e, show (x >>> Int.toNat 32).toNat = x.toNat / 2 ^ 32 from by simp [BitVec.toNat_ushiftRight, Nat.shiftRight_eq_div_pow, Nat.div_div_eq_div_mul]] at hq; simpa using hq
        have gv : (((BitVec.setWidth 8 (x >>> Int.toNat 32 >>> Int.toNat 8)).toNat : Nat) : Int) = ((x.toNat / 2 ^ 40 : Nat) : Int) := by simp [BitVec.toNat_ushiftRight, Nat.shiftRight_eq_div_pow, Nat.div_div_eq_div_mul]; omega
        have gl : lenN x.toNat = 40 + lenN (x.toNat / 2 ^ 40) := lenN_div (by omega)
        have gb : x.toNat / 2 ^ 40 < 256 := by omega
        have gm : ∀ n : Nat, n < 256 → lenN n ≤ 8 := by decide +kernel
        have gn := gm _ gb
        have hV : (len64_r2 x).told? = some (.int .i64 (lenN x.toNat)) := congrArg some (by show Value.int .i64 (IntKind.wrap IntKind.i64 (IntKind.wrap IntKind.i64 (32 + 8) + IntKind.wrap IntKind.i64 (strAt { data := List.toArray (List.append (List.append [0, 1, 2, 2, 3, 3, 3, 3, 4, 4, 4, 4, 4, 4, 4, 4, 5, 5, 5, 5, 5, 5, 5, 5, 5, 5, 5, 5, 5, 5, 5, 5, 6, 6, 6, 6, 6, 6, 6, 6, 6, 6, 6, 6, 6, 6, 6, 6, 6, 6, 6, 6, 6, 6, 6, 6, 6, 6, 6, 6, 6, 6, 6, 6] [7, 7, 7, 7, 7, 7, 7, 7, 7, 7, 7, 7, 7, 7, 7, 7, 7, 7, 7, 7, 7, 7, 7, 7, 7, 7, 7, 7, 7, 7, 7, 7, 7, 7, 7, 7, 7, 7, 7, 7, 7, 7, 7, 7, 7, 7, 7, 7, 7, 7, 7, 7, 7, 7, 7, 7, 7, 7, 7, 7, 7, 7, 7, 7]) (List.append [8, 8, 8, 8, 8, 8, 8, 8, 8, 8, 8, 8, 8, 8, 8, 8, 8, 8, 8, 8, 8, 8, 8, 8, 8, 8, 8, 8, 8, 8, 8, 8, 8, 8, 8, 8, 8, 8, 8, 8, 8, 8, 8, 8, 8, 8, 8, 8, 8, 8, 8, 8, 8, 8, 8, 8, 8, 8, 8, 8, 8, 8, 8, 8] [8, 8, 8, 8, 8, 8, 8, 8, 8, 8, 8, 8, 8, 8, 8, 8, 8, 8, 8, 8, 8, 8, 8, 8, 8, 8, 8, 8, 8, 8, 8, 8, 8, 8, 8, 8, 8, 8, 8, 8, 8, 8, 8, 8, 8, 8, 8, 8, 8, 8, 8, 8, 8, 8, 8, 8, 8, 8, 8, 8, 8, 8, 8, 8])) } (((BitVec.setWidth 8 (x >>> Int.toNat 32 >>> Int.toNat 8)).toNat : Nat) : Int)))) = _; rw [gv, htab _ gb, show (IntKind.wrap IntKind.i64 (32 + 8) : Int) = 40 by decide, IntWalk.i64_in ((lenN (x.toNat / 2 ^ 40) : Nat) : Int) (by omega), IntWalk.i64_in _ (by omega), gl]; congr 1)
        exact ev_callsI E0_ok 60 (len64_2 x (allE_cons h0 (allE_cons h1 (allE_cons h2 (allE_cons (decide_eq_true (by rw [gv]; exact ⟨by omega, Int.lt_of_lt_of_le (Int.ofNat_lt.2 gb) (by decide)⟩)) allE_nil))))) hV (.cons (.bv rfl) .nil) rfl w
    · rcases h2 : (Nat.ble (BitVec.toNat (BitVec.ofInt 64 256)) (BitVec.toNat (x >>> Int.toNat 32 >>> Int.toNat 16))) with _ | _
      · have g0 : 4294967296 ≤ x.toNat / 2 ^ 0 := by have hq := h0; rw [ble_dec] at hq; have e : (BitVec.ofInt 64 4294967296 : BitVec 64).toNat = 4294967296 := (by decide); rw [e] at hq; simpa using hq
        have g1 : 65536 ≤ x.toNat / 2 ^ 32 := by have hq := h1; rw [ble_dec] at hq; have e : (BitVec.ofInt 64 65536 : BitVec 64).toNat = 65536 := (by decide); rw [e, show (x >>> Int.toNat 32).toNat = x.toNat / 2 ^ 32 from by simp [BitVec.toNat_ushiftRight, Nat.shiftRight_eq_div_pow, Nat.div_div_eq_div_mul]] at hq; simpa using hq
        have g2 : ¬ 256 ≤ x.toNat / 2 ^ 48 := by have hq := h2; rw [ble_dec] at hq; have e : (BitVec.ofInt 64 256 : BitVec 64).toNat = 256 := (by decide); rw [e, show (x >>> Int.toNat 32 >>> Int.toNat 16).toNat = x.toNat / 2 ^ 48 from by simp [BitVec.toNat_ushiftRight, Nat.shiftRight_eq_div_pow, Nat.div_div_eq_div_mul]] at hq; simpa using hq
        have gv : (((BitVec.setWidth 8 (x >>> Int.toNat 32 >>> Int.toNat 16)).toNat : Nat) : Int) = ((x.toNat / 2 ^ 48 : Nat) : Int) := by simp [BitVec.toNat_ushiftRight, Nat.shiftRight_eq_div_pow, Nat.div_div_eq_div_mul]; omega
        have gl : lenN x.toNat = 48 + lenN (x.toNat / 2 ^ 48) := lenN_div (by omega)
        have gb : x.toNat / 2 ^ 48 < 256 := by omega
        have gm : ∀ n : Nat, n < 256 → lenN n ≤ 8 := by decide +kernel
        have gn := gm _ gb
        have hV : (len64_r1 x).told? = some (.int .i64 (lenN x.toNat)) := congrArg some (by show Value.int .i64 (IntKind.wrap IntKind.i64 (IntKind.wrap IntKind.i64 (32 + 16) + IntKind.wrap IntKind.i64 (strAt { data := List.toArray (List.append (List.append [0, 1, 2, 2, 3, 3, 3, 3, 4, 4, 4, 4, 4, 4, 4, 4, 5, 5, 5, 5, 5, 5, 5, 5, 5, 5, 5, 5, 5, 5, 5, 5, 6, 6, 6, 6, 6, 6, 6, 6, 6, 6, 6, 6, 6, 6, 6, 6, 6, 6, 6, 6, 6, 6, 6, 6, 6, 6, 6, 6, 6, 6, 6, 6] [7, 7, 7, 7, 7, 7, 7, 7, 7, 7, 7, 7, 7, 7, 7, 7, 7, 7, 7, 7, 7, 7, 7, 7, 7, 7, 7, 7, 7, 7, 7, 7, 7, 7, 7, 7, 7, 7, 7, 7, 7, 7, 7, 7, 7, 7, 7, 7, 7, 7, 7, 7, 7, 7, 7, 7, 7, 7, 7, 7, 7, 7, 7, 7]) (List.append [8, 8, 8, 8, 8, 8, 8, 8, 8, 8, 8, 8, 8, 8, 8, 8, 8, 8, 8, 8, 8, 8, 8, 8, 8, 8, 8, 8, 8, 8, 8, 8, 8, 8, 8, 8, 8, 8, 8, 8, 8, 8, 8, 8, 8, 8, 8, 8, 8, 8, 8, 8, 8, 8, 8, 8, 8, 8, 8, 8, 8, 8, 8, 8] [8, 8, 8, 8, 8, 8, 8, 8, 8, 8, 8, 8, 8, 8, 8, 8, 8, 8, 8, 8, 8, 8, 8, 8, 8, 8, 8, 8, 8, 8, 8, 8, 8, 8, 8, 8, 8, 8, 8, 8, 8, 8, 8, 8, 8, 8, 8, 8, 8, 8, 8, 8, 8, 8, 8, 8, 8, 8, 8, 8, 8, 8, 8, 8])) } (((BitVec.setWidth 8 (x >>> Int.toNat 32 >>> Int.toNat 16)).toNat : Nat) : Int)))) = _; rw [gv, htab _ gb, show (IntKind.wrap IntKind.i64 (32 + 16) : Int) = 48 by decide, IntWalk.i64_in ((lenN (x.toNat / 2 ^ 48) : Nat) : Int) (by omega), IntWalk.i64_in _ (by omega), gl]; congr 1)
        exact ev_callsI E0_ok 60 (len64_1 x (allE_cons h0 (allE_cons h1 (allE_cons h2 (allE_cons (decide_eq_true (by rw [gv]; exact ⟨by omega, Int.lt_of_lt_of_le (Int.ofNat_lt.2 gb) (by decide)⟩)) allE_nil))))) hV (.cons (.bv rfl) .nil) rfl w
      · have g0 : 4294967296 ≤ x.toNat / 2 ^ 0 := by have hq := h0; rw [ble_dec] at hq; have e : (BitVec.ofInt 64 4294967296 : BitVec 64).toNat = 4294967296 := (by decide); rw [e] at hq; simpa using hq
        have g1 : 65536 ≤ x.toNat / 2 ^ 32 := by have hq := h1; rw [ble_dec] at hq; have e : (BitVec.ofInt 64 65536 : BitVec 64).toNat = 65536 := (by decide); rw [e, show (x >>> Int.toNat 32).toNat = x.toNat / 2 ^ 32 from by simp [BitVec.toNat_ushiftRight, Nat.shiftRight_eq_div_pow, Nat.div_div_eq_div_mul]] at hq; simpa using hq
        have g2 : 256 ≤ x.toNat / 2 ^ 48 := by have hq := h2; rw [ble_dec] at hq; have e : (BitVec.ofInt 64 256 : BitVec 64).toNat = 256 := (by decide); rw [e, show (x >>> Int.toNat 32 >>> Int.toNat 16).toNat = x.toNat / 2 ^ 48 from by simp [BitVec.toNat_ushiftRight, Nat.shiftRight_eq_div_pow, Nat.div_div_eq_div_mul]] at hq; simpa using hq
        have gv : (((BitVec.setWidth 8 (x >>> Int.toNat 32 >>> Int.toNat 16 >>> Int.toNat 8)).toNat : Nat) : Int) = ((x.toNat / 2 ^ 56 : Nat) : Int) := by simp [BitVec.toNat_ushiftRight, Nat.shiftRight_eq_div_pow, Nat.div_div_eq_div_mul]; omega
        have gl : lenN x.toNat = 56 + lenN (x.toNat / 2 ^ 56) := lenN_div (by omega)
        have gb : x.toNat / 2 ^ 56 < 256 := by omega
        have gm : ∀ n : Nat, n < 256 → lenN n ≤ 8 := by decide +kernel
        have gn := gm _ gb
        have hV : (len64_r0 x).told? = some (.int .i64 (lenN x.toNat)) := congrArg some (by show Value.int .i64 (IntKind.wrap IntKind.i64 (IntKind.wrap IntKind.i64 (IntKind.wrap IntKind.i64 (32 + 16) + 8) + IntKind.wrap IntKind.i64 (strAt { data := List.toArray (List.append (List.append [0, 1, 2, 2, 3, 3, 3, 3, 4, 4, 4, 4, 4, 4, 4, 4, 5, 5, 5, 5, 5, 5, 5, 5, 5, 5, 5, 5, 5, 5, 5, 5, 6, 6, 6, 6, 6, 6, 6, 6, 6, 6, 6, 6, 6, 6, 6, 6, 6, 6, 6, 6, 6, 6, 6, 6, 6, 6, 6, 6, 6, 6, 6, 6] [7, 7, 7, 7, 7, 7, 7, 7, 7, 7, 7, 7, 7, 7, 7, 7, 7, 7, 7, 7, 7, 7, 7, 7, 7, 7, 7, 7, 7, 7, 7, 7, 7, 7, 7, 7, 7, 7, 7, 7, 7, 7, 7, 7, 7, 7, 7, 7, 7, 7, 7, 7, 7, 7, 7, 7, 7, 7, 7, 7, 7, 7, 7, 7]) (List.append [8, 8, 8, 8, 8, 8, 8, 8, 8, 8, 8, 8, 8, 8, 8, 8, 8, 8, 8, 8, 8, 8, 8, 8, 8, 8, 8, 8, 8, 8, 8, 8, 8, 8, 8, 8, 8, 8, 8, 8, 8, 8, 8, 8, 8, 8, 8, 8, 8, 8, 8, 8, 8, 8, 8, 8, 8, 8, 8, 8, 8, 8, 8, 8] [8, 8, 8, 8, 8, 8, 8, 8, 8, 8, 8, 8, 8, 8, 8, 8, 8, 8, 8, 8, 8, 8, 8, 8, 8, 8, 8, 8, 8, 8, 8, 8, 8, 8, 8, 8, 8, 8, 8, 8, 8, 8, 8, 8, 8, 8, 8, 8, 8, 8, 8, 8, 8, 8, 8, 8, 8, 8, 8, 8, 8, 8, 8, 8])) } (((BitVec.setWidth 8 (x >>> Int.toNat 32 >>> Int.toNat 16 >>> Int.toNat 8)).toNat : Nat) : Int)))) = _; rw [gv, htab _ gb, show (IntKind.wrap IntKind.i64 (IntKind.wrap IntKind.i64 (32 + 16) + 8) : Int) = 56 by decide, IntWalk.i64_in ((lenN (x.toNat / 2 ^ 56) : Nat) : Int) (by omega), IntWalk.i64_in _ (by omega), gl]; congr 1)
        exact ev_callsI E0_ok 60 (len64_0 x (allE_cons h0 (allE_cons h1 (allE_cons h2 (allE_cons (decide_eq_true (by rw [gv]; exact ⟨by omega, Int.lt_of_lt_of_le (Int.ofNat_lt.2 gb) (by decide)⟩)) allE_nil))))) hV (.cons (.bv rfl) .nil) rfl w
end
end Go.Proofs.YtoobfgahbndhjaaDoor
