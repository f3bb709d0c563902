/- The laws SplitParts, SplitMods, SplitHolds on words. No condition. -/
import Derived.Test.YtjmaigienigpnaaSpO
import Derived.Test.YtjmaigienigpnaaLaw
set_option linter.unusedVariables false
set_option linter.unusedSimpArgs false
set_option maxRecDepth 100000
namespace Go.Proofs.Ytjmaigienigpnaa
open Go.RowKit

theorem mulMW_one (a b : BitVec 256) : mulMW a 1#256 b = modW a b := by
  unfold mulMW modW
  by_cases h : b = 0#256
  · rw [if_pos h, if_pos h]
  · rw [if_neg h, if_neg h]
    apply BitVec.eq_of_toNat_eq
    rw [BitVec.toNat_ofNat, BitVec.toNat_umod, show (1#256 : BitVec 256).toNat = 1 from rfl, Nat.mul_one]
    exact Nat.mod_eq_of_lt (Nat.lt_of_le_of_lt (Nat.mod_le _ _) a.isLt)
theorem addMW_zero (a b : BitVec 256) : addMW a 0#256 b = modW a b := by
  unfold addMW modW
  by_cases h : b = 0#256
  · rw [if_pos h, if_pos h]
  · rw [if_neg h, if_neg h]
    apply BitVec.eq_of_toNat_eq
    rw [BitVec.toNat_ofNat, BitVec.toNat_umod, show (0#256 : BitVec 256).toNat = 0 from rfl, Nat.add_zero]
    exact Nat.mod_eq_of_lt (Nat.lt_of_le_of_lt (Nat.mod_le _ _) a.isLt)
theorem Z0_eq : mkW (BitVec.ofInt 64 0) (BitVec.ofInt 64 0) (BitVec.ofInt 64 0) (BitVec.ofInt 64 0) = 0#256 := by decide
theorem one_eq : BitVec.ofNat 256 (BitVec.ofInt 64 1).toNat = 1#256 := by decide
theorem eqB_of {x y : BitVec 256} (h : x = y) : eqB x y = true := by rw [eqB_eq]; simpa using h
theorem eqF_of {x y : BitVec 256} (h : x = y) : (false != eqB x y) = true := by rw [eqB_of h]; rfl
theorem neB_of {x y : BitVec 256} (h : x = y) : (true != eqB x y) = false := by rw [eqB_of h]; rfl
theorem eqZ4_eq (x : BitVec 256) : eqZ4 x = decide (x = 0#256) := by
  have h : eqZ4 x = eqB x 0#256 := by
    have k : ∀ y : BitVec 64, (((y.toNat : Nat) : Int) == 0) = (y == 0#64) := fun y => by
      rw [Bool.eq_iff_iff, beq_iff_eq, beq_iff_eq]
      constructor
      · intro h; apply BitVec.eq_of_toNat_eq; simp; omega
      · rintro rfl; rfl
    unfold eqZ4 eqB
    rw [k, k, k, k]; rfl
  rw [h, eqB_eq]
theorem ord_neg {x y : BitVec 256} (h : x.toNat < y.toNat) : decide (ordW x y < 0) = true := by unfold ordW; rw [if_pos h]; rfl
theorem div_mod (a b : BitVec 256) (h : ¬ b = 0#256) : divW a b * b + modW a b = a := by
  unfold divW modW
  rw [if_neg h, if_neg h]
  apply BitVec.eq_of_toNat_eq
  have ha := a.isLt
  have e : a.toNat / b.toNat * b.toNat + a.toNat % b.toNat = a.toNat := by rw [Nat.mul_comm]; exact Nat.div_add_mod _ _
  have hle : a.toNat / b.toNat * b.toNat ≤ a.toNat := by omega
  rw [BitVec.toNat_add, BitVec.toNat_mul, BitVec.toNat_udiv, BitVec.toNat_umod, Nat.mod_eq_of_lt (show a.toNat / b.toNat * b.toNat < 2 ^ 256 by omega), e, Nat.mod_eq_of_lt ha]
theorem abs_ne {b : BitVec 256} (h : ¬ b = 0#256) : ¬ absW b = 0#256 := by
  unfold absW
  split
  · intro h2
    apply h
    have := congrArg (fun z => b + z) h2
    simpa [BitVec.add_sub_cancel] using this.symm
  · exact h
theorem sdiv_smod (a b : BitVec 256) (h : ¬ b = 0#256) : sdivW a b * b + smodW a b = a := by
  have h1 := div_mod (absW a) (absW b) (abs_ne h)
  unfold sdivW smodW
  generalize divW (absW a) (absW b) = q at *
  generalize modW (absW a) (absW b) = r at *
  unfold absW at h1
  cases ha : a.getLsbD 255 <;> cases hb : b.getLsbD 255 <;> simp only [ha, hb, Bool.bne_true, Bool.bne_false, Bool.not_true, Bool.not_false, Bool.false_eq_true, if_true, if_false, bne_self_eq_false, beq_self_eq_true, Bool.true_bne, Bool.false_bne] at h1 ⊢
  · exact h1
  · rw [← h1]
    simp only [BitVec.zero_sub, BitVec.neg_mul, BitVec.mul_neg]
  · have h2 : a = 0#256 - (q * b + r) := by rw [h1]; simp
    rw [h2]
    simp only [BitVec.zero_sub, BitVec.neg_mul, BitVec.neg_add]
    rw [BitVec.sub_eq_add_neg]
  · have h2 : a = 0#256 - (q * (0#256 - b) + r) := by rw [h1]; simp
    rw [h2]
    simp only [BitVec.zero_sub, BitVec.mul_neg, BitVec.neg_add, BitVec.neg_neg]
    rw [BitVec.sub_eq_add_neg]
noncomputable def tabL : List (Nat × CtrF) := (12, ctr0 (.bool true true)) :: tabS
theorem tabL_ok : ∀ p ∈ tabL, Good Try.prog noRows p.1 p.2 := good_cons (p := (_, _)) (ctr0_ok (enters_of Try.func12 (by kernel_rfl) rfl) rfl (fun w => works_any w)) tabS_ok
def EL_eqs : List (Nat × List IntKind) := [(24, List.replicate 4 .u64)]
theorem EL_eqs_ok : ∀ p ∈ EL_eqs, EqT Try.prog p.1 p.2 := eqs_cons (eqT_ints (P := Try.prog) (t := 24) (e := 22) (len := 4) (k := .u64) (by kernel_rfl) (by kernel_rfl) (by kernel_rfl)) (eqs_nil)
noncomputable def EL : Env := ⟨Try.prog, lookE EL_eqs, noRows, lookF tabL, fun _ => none, fun _ => false⟩
theorem hEL : EnvOK EL := ⟨fun t ks h => lookE_ok EL_eqs_ok t ks h, rwOK_no, fun f F h => lookF_ok tabL_ok f F h, fun f F h => (by cases h), rfl⟩
theorem mods_ev (a b m : BitVec 256)  : Is (evCall EL 60 3 [wA a, wA b, wA m] ⟨[], [true, true], fun _ => true⟩ (fun v _ => v = .bool true true)) :=
  ev_eq [(false != eqB (addMW (re a) (re b) (re m)) (addMW (re a) (re b) (re m)), true), (false != eqB (mulMW (re a) (re b) (re m)) (mulMW (re a) (re b) (re m)), true)] (AV.bool true true) (by kernel_rfl) (allE_cons (eqF_of rfl) (allE_cons (eqF_of rfl) (allE_nil)))
theorem mods_any (a b m : BitVec 256)  (w : World) : Calls Try.prog 3 #[W a, W b, W m] w fun e w' => e = .returned (.bool true) ∧ Below w.heap.size w w' :=
  ev_calls hEL 60 (mods_ev a b m).is rfl (.cons (rel_wA _ a) (.cons (rel_wA _ b) (.cons (rel_wA _ m) .nil))) rfl w
theorem parts_ev (a b : BitVec 256)  : Is (evCall EL 60 7 [wA a, wA b] ⟨[], [true, true, true, true, true, true], fun _ => true⟩ (fun v _ => v = .bool true true)) :=
  ev_eq [(false != eqB (divW (re a) (re b)) (divW (re a) (re b)), true), (false != eqB (modW (re a) (re b)) (modW (re a) (re b)), true), (false != eqB (sdivW (re a) (re b)) (sdivW (re a) (re b)), true), (false != eqB (smodW (re a) (re b)) (smodW (re a) (re b)), true), (false != (((re a).getLsbD 255) == ((re a).getLsbD 255)), true), (false != ((lessW (re a) (re b)) == (lessW (re a) (re b))), true)] (AV.bool true true) (by kernel_rfl) (allE_cons (eqF_of rfl) (allE_cons (eqF_of rfl) (allE_cons (eqF_of rfl) (allE_cons (eqF_of rfl) (allE_cons (by cases h : ((re a).getLsbD 255) <;> rfl) (allE_cons (by cases h : lessW (re a) (re b) <;> rfl) (allE_nil)))))))
theorem parts_any (a b : BitVec 256)  (w : World) : Calls Try.prog 7 #[W a, W b] w fun e w' => e = .returned (.bool true) ∧ Below w.heap.size w w' :=
  ev_calls hEL 60 (parts_ev a b).is rfl (.cons (rel_wA _ a) (.cons (rel_wA _ b) .nil)) rfl w
theorem holds_z_ev (a b : BitVec 256) (h0 : b = 0#256) : Is (evCall EL 60 5 [wA a, wA b] ⟨[], [false, false, true, true, true], fun _ => true⟩ (fun v _ => v = .bool true true)) :=
  ev_eq [(true != eqB (mulMW (re a) (re (BitVec.ofNat 256 (BitVec.ofInt 64 1).toNat)) (re b)) (modW (re a) (re b)), false), (true != eqB (addMW (re a) (mkW (BitVec.ofInt 64 0) (BitVec.ofInt 64 0) (BitVec.ofInt 64 0) (BitVec.ofInt 64 0)) (re b)) (modW (re a) (re b)), false), (false != eqZ4 b, true), (false != eqB (divW (re a) (re b)) (b), true), (false != eqB (modW (re a) (re b)) (b), true)] (AV.bool true true) (by kernel_rfl) (allE_cons (neB_of (by rw [one_eq, re_eq 1#256]; exact mulMW_one _ _)) (allE_cons (neB_of (by rw [Z0_eq]; exact addMW_zero _ _)) (allE_cons (by rw [eqZ4_eq]; simpa using h0) (allE_cons (eqF_of (by subst h0; rw [re_eq, re_eq]; exact if_pos rfl)) (allE_cons (eqF_of (by subst h0; rw [re_eq, re_eq]; exact if_pos rfl)) (allE_nil))))))
theorem holds_z_any (a b : BitVec 256) (h0 : b = 0#256) (w : World) : Calls Try.prog 5 #[W a, W b] w fun e w' => e = .returned (.bool true) ∧ Below w.heap.size w w' :=
  ev_calls hEL 60 (holds_z_ev a b h0).is rfl (.cons (rel_wA _ a) (.cons (rel_wA _ b) .nil)) rfl w
theorem holds_n_ev (a b : BitVec 256) (h0 : ¬ b = 0#256) : Is (evCall EL 60 5 [wA a, wA b] ⟨[], [false, false, false, true, true, true], fun _ => true⟩ (fun v _ => v = .bool true true)) :=
  ev_eq [(true != eqB (mulMW (re a) (re (BitVec.ofNat 256 (BitVec.ofInt 64 1).toNat)) (re b)) (modW (re a) (re b)), false), (true != eqB (addMW (re a) (mkW (BitVec.ofInt 64 0) (BitVec.ofInt 64 0) (BitVec.ofInt 64 0) (BitVec.ofInt 64 0)) (re b)) (modW (re a) (re b)), false), (false != eqZ4 b, false), (decide (ordW (re (modW (re a) (re b))) (re b) < 0), true), (false != eqB ((re ((re (divW (re a) (re b))) * (re b))) + (re (modW (re a) (re b)))) (a), true), (false != eqB ((re ((re (sdivW (re a) (re b))) * (re b))) + (re (smodW (re a) (re b)))) (a), true)] (AV.bool true true) (by kernel_rfl) (allE_cons (neB_of (by rw [one_eq, re_eq 1#256]; exact mulMW_one _ _)) (allE_cons (neB_of (by rw [Z0_eq]; exact addMW_zero _ _)) (allE_cons (by rw [eqZ4_eq]; simpa using h0) (allE_cons (ord_neg (by rw [re_eq (modW _ _), re_eq, re_eq]; unfold modW; rw [if_neg h0, BitVec.toNat_umod]; exact Nat.mod_lt _ (pos_of_ne h0))) (allE_cons (eqF_of (by simp only [re_eq]; exact div_mod a b h0)) (allE_cons (eqF_of (by simp only [re_eq]; exact sdiv_smod a b h0)) (allE_nil)))))))
theorem holds_n_any (a b : BitVec 256) (h0 : ¬ b = 0#256) (w : World) : Calls Try.prog 5 #[W a, W b] w fun e w' => e = .returned (.bool true) ∧ Below w.heap.size w w' :=
  ev_calls hEL 60 (holds_n_ev a b h0).is rfl (.cons (rel_wA _ a) (.cons (rel_wA _ b) .nil)) rfl w
theorem holds_any (a b : BitVec 256) (w : World) : Calls Try.prog 5 #[W a, W b] w fun e w' => e = .returned (.bool true) ∧ Below w.heap.size w w' := by
  by_cases h : b = 0#256
  · exact holds_z_any a b h w
  · exact holds_n_any a b h w
theorem W_of (a0 a1 a2 a3 : Int) (h0 : (Lit.int .u64 a0).wf = true) (h1 : (Lit.int .u64 a1).wf = true) (h2 : (Lit.int .u64 a2).wf = true) (h3 : (Lit.int .u64 a3).wf = true) : ∃ x : BitVec 256, Value.agg #[.int .u64 a0, .int .u64 a1, .int .u64 a2, .int .u64 a3] = W x := by
  have b0 := bounds_u64 h0
  have b1 := bounds_u64 h1
  have b2 := bounds_u64 h2
  have b3 := bounds_u64 h3
  refine ⟨mkW (BitVec.ofInt 64 a0) (BitVec.ofInt 64 a1) (BitVec.ofInt 64 a2) (BitVec.ofInt 64 a3), ?_⟩
  rw [W_mkW]
  simp only [BitVec.toNat_ofInt]
  congr <;> omega
end Go.Proofs.Ytjmaigienigpnaa
