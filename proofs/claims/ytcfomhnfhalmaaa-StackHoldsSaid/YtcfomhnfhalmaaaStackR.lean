/- What price.Reach comes to, as a contract. No condition. -/
import Derived.Test.YtcfomhnfhalmaaaEyO
import Derived.Test.YtcfomhnfhalmaaaSPriceD
set_option linter.unusedVariables false
set_option linter.unusedSimpArgs false
set_option maxRecDepth 100000
namespace Go.Proofs.Ytcfomhnfhalmaaa
open Go.RowKit

/-- Words of one number. -/
def small1 : AV → Option (Bool × Int)
  | .agg [.int .u64 l a, .int .u64 true b, .int .u64 true c, .int .u64 true d] => bif decide (b = 0) && (decide (c = 0) && decide (d = 0)) then some (l, a) else none
  | _ => none
theorem W_small (a : Int) (h0 : 0 ≤ a) (h1 : a < 18446744073709551616) : W (BitVec.ofInt 256 a) = .agg #[.int .u64 a, .int .u64 0, .int .u64 0, .int .u64 0] := by
  obtain ⟨n, rfl⟩ := Int.eq_ofNat_of_zero_le h0
  have hn : n < 18446744073709551616 := by omega
  rw [BitVec.ofInt_natCast]
  show Value.agg #[_, _, _, _] = _
  have e : ∀ i, L (BitVec.ofNat 256 n) i = if i = 0 then (n : Int) else 0 := fun i => by
    rw [L_eq]
    have hm : (BitVec.ofNat 256 n).toNat = n := by rw [BitVec.toNat_ofNat]; exact Nat.mod_eq_of_lt (Nat.lt_trans hn (by decide))
    rw [hm]
    split
    · next h => subst h; simp; omega
    · next h =>
      have : 18446744073709551616 ≤ 2 ^ (64 * i) := by
        have : 2 ^ (64 * 1) ≤ 2 ^ (64 * i) := Nat.pow_le_pow_right (by omega) (by omega)
        simpa using this
      have : n / 2 ^ (64 * i) = 0 := Nat.div_eq_of_lt (by omega)
      rw [this]; rfl
  simp [e]
theorem small1_rel {R : Rws} {ρ : Nums} {x : AV} {l : Bool} {a : Int} {V : Value} (h : small1 x = some (l, a)) (hv : Rel R ρ x V) (h0 : 0 ≤ a) (h1 : a < 18446744073709551616) : V = W (BitVec.ofInt 256 a) := by
  unfold small1 at h
  split at h
  · rename_i l' a' b c d
    cases hd : (decide (b = 0) && (decide (c = 0) && decide (d = 0))) <;> simp only [hd, cond_true, cond_false] at h
    · cases h
    · cases h
      simp only [Bool.and_eq_true, decide_eq_true_eq] at hd
      obtain ⟨rfl, rfl, rfl⟩ := hd
      rw [W_small a h0 h1]
      cases hv with | agg hc =>
      cases hc with | cons a1 hc =>
      cases hc with | cons a2 hc =>
      cases hc with | cons a3 hc =>
      cases hc with | cons a4 hc =>
      cases hc
      cases a1; cases a2; cases a3; cases a4
      rfl
  · cases h
def ctrReach : List AV → Mem → Option VC
  | [.int .i64 l n, x, y], _ => match small1 x, small1 y with
    | some (l1, a), some (l2, m) => some (.tuple [.int .i64 (l && (l1 && l2)) (reachN n (BitVec.ofInt 256 a) (BitVec.ofInt 256 m)), .int .u64 false (reachC n (BitVec.ofInt 256 a) (BitVec.ofInt 256 m)), .int .i64 (l && (l1 && l2)) (reachE n (BitVec.ofInt 256 a) (BitVec.ofInt 256 m))], [decide (0 ≤ a ∧ a < 18446744073709551616), decide (0 ≤ m ∧ m < 18446744073709551616)])
    | _, _ => none
  | _, _ => none
theorem ctrReach_ok {R : Rws} : Good Try.prog R 81 ctrReach := by
  refine ⟨enters_of Try.func81 (by kernel_rfl) rfl, fun args H v cs hv hcs => ?_⟩
  unfold ctrReach at hv
  split at hv
  · rename_i l n x y
    split at hv
    · rename_i l1 a l2 m h1 h2
      cases hv
      have q1 := of_decide_eq_true (hcs (decide (0 ≤ a ∧ a < 18446744073709551616)) (List.mem_cons_self ..))
      have q2 := of_decide_eq_true (hcs (decide (0 ≤ m ∧ m < 18446744073709551616)) (List.mem_cons_of_mem _ (List.mem_cons_self ..)))
      refine ⟨_, rfl, fun Hr Args ha _ _ w _ => ?_⟩
      cases ha with | cons a1 ha =>
      cases ha with | cons a2 ha =>
      cases ha with | cons a3 ha =>
      cases ha
      cases a1
      obtain rfl := small1_rel h1 a2 q1.1 q1.2
      obtain rfl := small1_rel h2 a3 q2.1 q2.2
      exact reach_any n _ _ w
    · cases hv
  · cases hv
end Go.Proofs.Ytcfomhnfhalmaaa
