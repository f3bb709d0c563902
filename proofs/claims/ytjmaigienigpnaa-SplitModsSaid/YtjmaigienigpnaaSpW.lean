/- What all functions of words do, as contracts. No condition. -/
import Derived.Test.YtjmaigienigpnaaSpN
import Derived.Test.YtjmaigienigpnaaRngC
import Derived.Test.YtjmaigienigpnaaExB
set_option linter.unusedVariables false
set_option linter.unusedSimpArgs false
set_option maxRecDepth 100000
namespace Go.Proofs.Ytjmaigienigpnaa
open Go.RowKit

noncomputable def tabS : List (Nat × CtrF) := [(15, ctrTT asW asW (fun (x : BitVec 256) (y : BitVec 256) => wA (divW x y))),
  (16, ctrTT asW asW (fun (x : BitVec 256) (y : BitVec 256) => wA (modW x y))),
  (21, ctrTT asW asW (fun (x : BitVec 256) (y : BitVec 256) => wA (sdivW x y))),
  (22, ctrTT asW asW (fun (x : BitVec 256) (y : BitVec 256) => wA (smodW x y))),
  (8, ctrTTT asW asW asW (fun (x : BitVec 256) (y : BitVec 256) (z : BitVec 256) => wA (addMW x y z))),
  (10, ctrTTT asW asW asW (fun (x : BitVec 256) (y : BitVec 256) (z : BitVec 256) => wA (mulMW x y z))),
  (26, ctrT asW (fun (x : BitVec 256) => .bool false (x.getLsbD 255))),
  (28, ctrTT asW asW (fun (x : BitVec 256) (y : BitVec 256) => .bool false (lessW x y))),
  (23, ctrTT asW asW (fun (x : BitVec 256) (y : BitVec 256) => .tuple [wA (divW x y), wA (modW x y)])),
  (24, ctrTT asW asW (fun (x : BitVec 256) (y : BitVec 256) => wA (sdivW x y))),
  (25, ctrTT asW asW (fun (x : BitVec 256) (y : BitVec 256) => wA (smodW x y))),
  (9, ctrTTT asW asW asW (fun (x : BitVec 256) (y : BitVec 256) (z : BitVec 256) => wA (addMW x y z))),
  (11, ctrTTT asW asW asW (fun (x : BitVec 256) (y : BitVec 256) (z : BitVec 256) => wA (mulMW x y z))),
  (27, ctrT asW (fun (x : BitVec 256) => .bool false (x.getLsbD 255))),
  (29, ctrTT asW asW (fun (x : BitVec 256) (y : BitVec 256) => .bool false (lessW x y))),
  (17, ctrT asN (fun (x : BitVec 64) => wA (BitVec.ofNat 256 x.toNat))),
  (36, ctrT asN (fun (x : BitVec 64) => wA (0#256 - BitVec.ofNat 256 x.toNat))),
  (19, ctrTT asW asW (fun (x : BitVec 256) (y : BitVec 256) => wA (x + y))),
  (20, ctrTT asW asW (fun (x : BitVec 256) (y : BitVec 256) => wA (x * y))),
  (18, ctrTT asW asW (fun (x : BitVec 256) (y : BitVec 256) => .int .i64 false (ordW x y)))]
theorem tabS_ok : ∀ p ∈ tabS, Good Try.prog noRows p.1 p.2 := by
  have h0 : Good Try.prog noRows 15 ( ctrTT asW asW (fun (x : BitVec 256) (y : BitVec 256) => wA (divW x y))) := ctrTT_ok (ea := W) (eb := W) (V := fun (x : BitVec 256) (y : BitVec 256) => W (divW x y)) (fun h => asW_rel h) (fun h => asW_rel h) (enters_of Try.func15 (by kernel_rfl) rfl) (fun _ _ => told_wA _) (fun x y w => divW_any x y w)
  have h1 : Good Try.prog noRows 16 ( ctrTT asW asW (fun (x : BitVec 256) (y : BitVec 256) => wA (modW x y))) := ctrTT_ok (ea := W) (eb := W) (V := fun (x : BitVec 256) (y : BitVec 256) => W (modW x y)) (fun h => asW_rel h) (fun h => asW_rel h) (enters_of Try.func16 (by kernel_rfl) rfl) (fun _ _ => told_wA _) (fun x y w => modW_any x y w)
  have h2 : Good Try.prog noRows 21 ( ctrTT asW asW (fun (x : BitVec 256) (y : BitVec 256) => wA (sdivW x y))) := ctrTT_ok (ea := W) (eb := W) (V := fun (x : BitVec 256) (y : BitVec 256) => W (sdivW x y)) (fun h => asW_rel h) (fun h => asW_rel h) (enters_of Try.func21 (by kernel_rfl) rfl) (fun _ _ => told_wA _) (fun x y w => sdiv_any x y w)
  have h3 : Good Try.prog noRows 22 ( ctrTT asW asW (fun (x : BitVec 256) (y : BitVec 256) => wA (smodW x y))) := ctrTT_ok (ea := W) (eb := W) (V := fun (x : BitVec 256) (y : BitVec 256) => W (smodW x y)) (fun h => asW_rel h) (fun h => asW_rel h) (enters_of Try.func22 (by kernel_rfl) rfl) (fun _ _ => told_wA _) (fun x y w => smod_any x y w)
  have h4 : Good Try.prog noRows 8 ( ctrTTT asW asW asW (fun (x : BitVec 256) (y : BitVec 256) (z : BitVec 256) => wA (addMW x y z))) := ctrTTT_ok (ea := W) (eb := W) (ec := W) (V := fun (x : BitVec 256) (y : BitVec 256) (z : BitVec 256) => W (addMW x y z)) (fun h => asW_rel h) (fun h => asW_rel h) (fun h => asW_rel h) (enters_of Try.func8 (by kernel_rfl) rfl) (fun _ _ _ => told_wA _) (fun x y z w => addmod_any x y z w)
  have h5 : Good Try.prog noRows 10 ( ctrTTT asW asW asW (fun (x : BitVec 256) (y : BitVec 256) (z : BitVec 256) => wA (mulMW x y z))) := ctrTTT_ok (ea := W) (eb := W) (ec := W) (V := fun (x : BitVec 256) (y : BitVec 256) (z : BitVec 256) => W (mulMW x y z)) (fun h => asW_rel h) (fun h => asW_rel h) (fun h => asW_rel h) (enters_of Try.func10 (by kernel_rfl) rfl) (fun _ _ _ => told_wA _) (fun x y z w => mulmod_any x y z w)
  have h6 : Good Try.prog noRows 26 ( ctrT asW (fun (x : BitVec 256) => .bool false (x.getLsbD 255))) := ctrT_ok (enc := W) (V := fun (x : BitVec 256) => .bool (x.getLsbD 255)) (fun h => asW_rel h) (enters_of Try.func26 (by kernel_rfl) rfl) (fun _ => rfl) (fun x w => negW x w)
  have h7 : Good Try.prog noRows 28 ( ctrTT asW asW (fun (x : BitVec 256) (y : BitVec 256) => .bool false (lessW x y))) := ctrTT_ok (ea := W) (eb := W) (V := fun (x : BitVec 256) (y : BitVec 256) => .bool (lessW x y)) (fun h => asW_rel h) (fun h => asW_rel h) (enters_of Try.func28 (by kernel_rfl) rfl) (fun _ _ => rfl) (fun x y w => less_any x y w)
  have h8 : Good Try.prog noRows 23 ( ctrTT asW asW (fun (x : BitVec 256) (y : BitVec 256) => .tuple [wA (divW x y), wA (modW x y)])) := ctrTT_ok (ea := W) (eb := W) (V := fun (x : BitVec 256) (y : BitVec 256) => .tuple #[W (divW x y), W (modW x y)]) (fun h => asW_rel h) (fun h => asW_rel h) (enters_of Try.func23 (by kernel_rfl) rfl) (fun _ _ => told_WW _ _) (fun x y w => refDivideW x y w)
  have h9 : Good Try.prog noRows 24 ( ctrTT asW asW (fun (x : BitVec 256) (y : BitVec 256) => wA (sdivW x y))) := ctrTT_ok (ea := W) (eb := W) (V := fun (x : BitVec 256) (y : BitVec 256) => W (sdivW x y)) (fun h => asW_rel h) (fun h => asW_rel h) (enters_of Try.func24 (by kernel_rfl) rfl) (fun _ _ => told_wA _) (fun x y w => refSDivW x y w)
  have h10 : Good Try.prog noRows 25 ( ctrTT asW asW (fun (x : BitVec 256) (y : BitVec 256) => wA (smodW x y))) := ctrTT_ok (ea := W) (eb := W) (V := fun (x : BitVec 256) (y : BitVec 256) => W (smodW x y)) (fun h => asW_rel h) (fun h => asW_rel h) (enters_of Try.func25 (by kernel_rfl) rfl) (fun _ _ => told_wA _) (fun x y w => refSModW x y w)
  have h11 : Good Try.prog noRows 9 ( ctrTTT asW asW asW (fun (x : BitVec 256) (y : BitVec 256) (z : BitVec 256) => wA (addMW x y z))) := ctrTTT_ok (ea := W) (eb := W) (ec := W) (V := fun (x : BitVec 256) (y : BitVec 256) (z : BitVec 256) => W (addMW x y z)) (fun h => asW_rel h) (fun h => asW_rel h) (fun h => asW_rel h) (enters_of Try.func9 (by kernel_rfl) rfl) (fun _ _ _ => told_wA _) (fun x y z w => refAddModW x y z w)
  have h12 : Good Try.prog noRows 11 ( ctrTTT asW asW asW (fun (x : BitVec 256) (y : BitVec 256) (z : BitVec 256) => wA (mulMW x y z))) := ctrTTT_ok (ea := W) (eb := W) (ec := W) (V := fun (x : BitVec 256) (y : BitVec 256) (z : BitVec 256) => W (mulMW x y z)) (fun h => asW_rel h) (fun h => asW_rel h) (fun h => asW_rel h) (enters_of Try.func11 (by kernel_rfl) rfl) (fun _ _ _ => told_wA _) (fun x y z w => refMulModW x y z w)
  have h13 : Good Try.prog noRows 27 ( ctrT asW (fun (x : BitVec 256) => .bool false (x.getLsbD 255))) := ctrT_ok (enc := W) (V := fun (x : BitVec 256) => .bool (x.getLsbD 255)) (fun h => asW_rel h) (enters_of Try.func27 (by kernel_rfl) rfl) (fun _ => rfl) (fun x w => refNegW x w)
  have h14 : Good Try.prog noRows 29 ( ctrTT asW asW (fun (x : BitVec 256) (y : BitVec 256) => .bool false (lessW x y))) := ctrTT_ok (ea := W) (eb := W) (V := fun (x : BitVec 256) (y : BitVec 256) => .bool (lessW x y)) (fun h => asW_rel h) (fun h => asW_rel h) (enters_of Try.func29 (by kernel_rfl) rfl) (fun _ _ => rfl) (fun x y w => refLessW x y w)
  have h15 : Good Try.prog noRows 17 ( ctrT asN (fun (x : BitVec 64) => wA (BitVec.ofNat 256 x.toNat))) := ctrT_ok (enc := (fun x : BitVec 64 => Value.int .u64 (x.toNat : Int))) (V := fun (x : BitVec 64) => W (BitVec.ofNat 256 x.toNat)) (fun h => asN_rel h) (enters_of Try.func17 (by kernel_rfl) rfl) (fun _ => told_wA _) (fun x w => refOfW x.toNat x.isLt w)
  have h16 : Good Try.prog noRows 36 ( ctrT asN (fun (x : BitVec 64) => wA (0#256 - BitVec.ofNat 256 x.toNat))) := ctrT_ok (enc := (fun x : BitVec 64 => Value.int .u64 (x.toNat : Int))) (V := fun (x : BitVec 64) => W (0#256 - BitVec.ofNat 256 x.toNat)) (fun h => asN_rel h) (enters_of Try.func36 (by kernel_rfl) rfl) (fun _ => told_wA _) (fun x w => lawBelowW x.toNat x.isLt w)
  have h17 : Good Try.prog noRows 19 ( ctrTT asW asW (fun (x : BitVec 256) (y : BitVec 256) => wA (x + y))) := ctrTT_ok (ea := W) (eb := W) (V := fun (x : BitVec 256) (y : BitVec 256) => W (x + y)) (fun h => asW_rel h) (fun h => asW_rel h) (enters_of Try.func19 (by kernel_rfl) rfl) (fun _ _ => told_wA _) (fun x y w => refAddW x y w)
  have h18 : Good Try.prog noRows 20 ( ctrTT asW asW (fun (x : BitVec 256) (y : BitVec 256) => wA (x * y))) := ctrTT_ok (ea := W) (eb := W) (V := fun (x : BitVec 256) (y : BitVec 256) => W (x * y)) (fun h => asW_rel h) (fun h => asW_rel h) (enters_of Try.func20 (by kernel_rfl) rfl) (fun _ _ => told_wA _) (fun x y w => refMulW x y w)
  have h19 : Good Try.prog noRows 18 ( ctrTT asW asW (fun (x : BitVec 256) (y : BitVec 256) => .int .i64 false (ordW x y))) := ctrTT_ok (ea := W) (eb := W) (V := fun (x : BitVec 256) (y : BitVec 256) => .int .i64 (ordW x y)) (fun h => asW_rel h) (fun h => asW_rel h) (enters_of Try.func18 (by kernel_rfl) rfl) (fun _ _ => rfl) (fun x y w => refOrderW x y w)
  exact good_cons (p := (_, _)) h0 (good_cons (p := (_, _)) h1 (good_cons (p := (_, _)) h2 (good_cons (p := (_, _)) h3 (good_cons (p := (_, _)) h4 (good_cons (p := (_, _)) h5 (good_cons (p := (_, _)) h6 (good_cons (p := (_, _)) h7 (good_cons (p := (_, _)) h8 (good_cons (p := (_, _)) h9 (good_cons (p := (_, _)) h10 (good_cons (p := (_, _)) h11 (good_cons (p := (_, _)) h12 (good_cons (p := (_, _)) h13 (good_cons (p := (_, _)) h14 (good_cons (p := (_, _)) h15 (good_cons (p := (_, _)) h16 (good_cons (p := (_, _)) h17 (good_cons (p := (_, _)) h18 (good_cons (p := (_, _)) h19 (good_nil))))))))))))))))))))
def ES_eqs : List (Nat × List IntKind) := [(24, List.replicate 4 .u64)]
theorem ES_eqs_ok : ∀ p ∈ ES_eqs, EqT Try.prog p.1 p.2 := eqs_cons (eqT_ints (P := Try.prog) (t := 24) (e := 22) (len := 4) (k := .u64) (by kernel_rfl) (by kernel_rfl) (by kernel_rfl)) (eqs_nil)
noncomputable def ES : Env := ⟨Try.prog, lookE ES_eqs, noRows, lookF tabS, fun _ => none, fun _ => false⟩
theorem hES : EnvOK ES := ⟨fun t ks h => lookE_ok ES_eqs_ok t ks h, rwOK_no, fun f F h => lookF_ok tabS_ok f F h, fun f F h => (by cases h), rfl⟩
end Go.Proofs.Ytjmaigienigpnaa
