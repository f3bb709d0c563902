/- The laws on words, by the evaluator. No condition. -/
import Derived.Test.YtjmaigienigpnaaSpN
import Derived.Test.YtjmaigienigpnaaRngC
import Derived.Test.YtjmaigienigpnaaExB
import Derived.Test.YtjmaigienigpnaaLaw
import Derived.Test.YtjmaigienigpnaaExS
set_option linter.unusedVariables false
set_option linter.unusedSimpArgs false
set_option maxRecDepth 100000
namespace Go.Proofs.Ytjmaigienigpnaa
open Go.RowKit

section
noncomputable def tabS : List (Nat × CtrF) := [(15, ctrTT asW asW (fun (x : BitVec 256) (y : BitVec 256) => wA (divW x y))),
  (16, ctrTT asW asW (fun (x : BitVec 256) (y : BitVec 256) => wA (modW x y))),
  (21, ctrTT asW asW (fun (x : BitVec 256) (y : BitVec 256) => wA (sdivW x y))),
  (22, ctrTT asW asW (fun (x : BitVec 256) (y : BitVec 256) => wA (smodW x y))),
  (8, ctrTTT asW asW asW (fun (x : BitVec 256) (y : BitVec 256) (z : BitVec 256) => wA (addMW x y z))),
  (10, ctrTTT asW asW asW (fun (x : BitVec 256) (y : BitVec 256) (z : BitVec 256) => wA (mulMW x y z))),
  (26, ctrT asW (fun (x : BitVec 256) => .bool false (x.getLsbD 255))),
  (28, ctrTT asW asW (fun (x : BitVec 256) (y : BitVec 256) => .bool false (lessW x y))),
  (23, ctrTT asW asW (fun (x : BitVec 256) (y : BitVec 256) => .tuple [wA (divW x y), wA (modW x y)])),
  (24, ctrTT asW asW (fun (x : BitVec 256) (y : BitVec 256) => wA (sdivW x y))),
  (25, ctrTT asW asW (fun (x : BitVec 256) (y : BitVec 256) => wA (smodW x y))),
  (9, ctrTTT asW asW asW (fun (x : BitVec 256) (y : BitVec 256) (z : BitVec 256) => wA (addMW x y z))),
  (11, ctrTTT asW asW asW (fun (x : BitVec 256) (y : BitVec 256) (z : BitVec 256) => wA (mulMW x y z))),
  (27, ctrT asW (fun (x : BitVec 256) => .bool false (x.getLsbD 255))),
  (29, ctrTT asW asW (fun (x : BitVec 256) (y : BitVec 256) => .bool false (lessW x y))),
  (17, ctrT asN (fun (x : BitVec 64) => wA (BitVec.ofNat 256 x.toNat))),
  (36, ctrT asN (fun (x : BitVec 64) => wA (0#256 - BitVec.ofNat 256 x.toNat))),
  (19, ctrTT asW asW (fun (x : BitVec 256) (y : BitVec 256) => wA (x + y))),
  (20, ctrTT asW asW (fun (x : BitVec 256) (y : BitVec 256) => wA (x * y))),
  (18, ctrTT asW asW (fun (x : BitVec 256) (y : BitVec 256) => .int .i64 false (ordW x y)))]
theorem tabS_ok {R : Rws} : ∀ p ∈ tabS, Good Try.prog R p.1 p.2 := by
  have h0 : Good Try.prog R 15 ( ctrTT asW asW (fun (x : BitVec 256) (y : BitVec 256) => wA (divW x y))) := ctrTT_ok (ea := W) (eb := W) (V := fun (x : BitVec 256) (y : BitVec 256) => W (divW x y)) (fun h => asW_rel h) (fun h => asW_rel h) (enters_of Try.func15 (by kernel_rfl) rfl) (fun _ _ => told_wA _) (fun x y w => divW_any x y w)
  have h1 : Good Try.prog R 16 ( ctrTT asW asW (fun (x : BitVec 256) (y : BitVec 256) => wA (modW x y))) := ctrTT_ok (ea := W) (eb := W) (V := fun (x : BitVec 256) (y : BitVec 256) => W (modW x y)) (fun h => asW_rel h) (fun h => asW_rel h) (enters_of Try.func16 (by kernel_rfl) rfl) (fun _ _ => told_wA _) (fun x y w => modW_any x y w)
  have h2 : Good Try.prog R 21 ( ctrTT asW asW (fun (x : BitVec 256) (y : BitVec 256) => wA (sdivW x y))) := ctrTT_ok (ea := W) (eb := W) (V := fun (x : BitVec 256) (y : BitVec 256) => W (sdivW x y)) (fun h => asW_rel h) (fun h => asW_rel h) (enters_of Try.func21 (by kernel_rfl) rfl) (fun _ _ => told_wA _) (fun x y w => sdiv_any x y w)
  have h3 : Good Try.prog R 22 ( ctrTT asW asW (fun (x : BitVec 256) (y : BitVec 256) => wA (smodW x y))) := ctrTT_ok (ea := W) (eb := W) (V := fun (x : BitVec 256) (y : BitVec 256) => W (smodW x y)) (fun h => asW_rel h) (fun h => asW_rel h) (enters_of Try.func22 (by kernel_rfl) rfl) (fun _ _ => told_wA _) (fun x y w => smod_any x y w)
  have h4 : Good Try.prog R 8 ( ctrTTT asW asW asW (fun (x : BitVec 256) (y : BitVec 256) (z : BitVec 256) => wA (addMW x y z))) := ctrTTT_ok (ea := W) (eb := W) (ec := W) (V := fun (x : BitVec 256) (y : BitVec 256) (z : BitVec 256) => W (addMW x y z)) (fun h => asW_rel h) (fun h => asW_rel h) (fun h => asW_rel h) (enters_of Try.func8 (by kernel_rfl) rfl) (fun _ _ _ => told_wA _) (fun x y z w => addmod_any x y z w)
  have h5 : Good Try.prog R 10 ( ctrTTT asW asW asW (fun (x : BitVec 256) (y : BitVec 256) (z : BitVec 256) => wA (mulMW x y z))) := ctrTTT_ok (ea := W) (eb := W) (ec := W) (V := fun (x : BitVec 256) (y : BitVec 256) (z : BitVec 256) => W (mulMW x y z)) (fun h => asW_rel h) (fun h => asW_rel h) (fun h => asW_rel h) (enters_of Try.func10 (by kernel_rfl) rfl) (fun _ _ _ => told_wA _) (fun x y z w => mulmod_any x y z w)
  have h6 : Good Try.prog R 26 ( ctrT asW (fun (x : BitVec 256) => .bool false (x.getLsbD 255))) := ctrT_ok (enc := W) (V := fun (x : BitVec 256) => .bool (x.getLsbD 255)) (fun h => asW_rel h) (enters_of Try.func26 (by kernel_rfl) rfl) (fun _ => rfl) (fun x w => negW x w)
  have h7 : Good Try.prog R 28 ( ctrTT asW asW (fun (x : BitVec 256) (y : BitVec 256) => .bool false (lessW x y))) := ctrTT_ok (ea := W) (eb := W) (V := fun (x : BitVec 256) (y : BitVec 256) => .bool (lessW x y)) (fun h => asW_rel h) (fun h => asW_rel h) (enters_of Try.func28 (by kernel_rfl) rfl) (fun _ _ => rfl) (fun x y w => less_any x y w)
  have h8 : Good Try.prog R 23 ( ctrTT asW asW (fun (x : BitVec 256) (y : BitVec 256) => .tuple [wA (divW x y), wA (modW x y)])) := ctrTT_ok (ea := W) (eb := W) (V := fun (x : BitVec 256) (y : BitVec 256) => .tuple #[W (divW x y), W (modW x y)]) (fun h => asW_rel h) (fun h => asW_rel h) (enters_of Try.func23 (by kernel_rfl) rfl) (fun _ _ => told_WW _ _) (fun x y w => refDivideW x y w)
  have h9 : Good Try.prog R 24 ( ctrTT asW asW (fun (x : BitVec 256) (y : BitVec 256) => wA (sdivW x y))) := ctrTT_ok (ea := W) (eb := W) (V := fun (x : BitVec 256) (y : BitVec 256) => W (sdivW x y)) (fun h => asW_rel h) (fun h => asW_rel h) (enters_of Try.func24 (by kernel_rfl) rfl) (fun _ _ => told_wA _) (fun x y w => refSDivW x y w)
  have h10 : Good Try.prog R 25 ( ctrTT asW asW (fun (x : BitVec 256) (y : BitVec 256) => wA (smodW x y))) := ctrTT_ok (ea := W) (eb := W) (V := fun (x : BitVec 256) (y : BitVec 256) => W (smodW x y)) (fun h => asW_rel h) (fun h => asW_rel h) (enters_of Try.func25 (by kernel_rfl) rfl) (fun _ _ => told_wA _) (fun x y w => refSModW x y w)
  have h11 : Good Try.prog R 9 ( ctrTTT asW asW asW (fun (x : BitVec 256) (y : BitVec 256) (z : BitVec 256) => wA (addMW x y z))) := ctrTTT_ok (ea := W) (eb := W) (ec := W) (V := fun (x : BitVec 256) (y : BitVec 256) (z : BitVec 256) => W (addMW x y z)) (fun h => asW_rel h) (fun h => asW_rel h) (fun h => asW_rel h) (enters_of Try.func9 (by kernel_rfl) rfl) (fun _ _ _ => told_wA _) (fun x y z w => refAddModW x y z w)
  have h12 : Good Try.prog R 11 ( ctrTTT asW asW asW (fun (x : BitVec 256) (y : BitVec 256) (z : BitVec 256) => wA (mulMW x y z))) := ctrTTT_ok (ea := W) (eb := W) (ec := W) (V := fun (x : BitVec 256) (y : BitVec 256) (z : BitVec 256) => W (mulMW x y z)) (fun h => asW_rel h) (fun h => asW_rel h) (fun h => asW_rel h) (enters_of Try.func11 (by kernel_rfl) rfl) (fun _ _ _ => told_wA _) (fun x y z w => refMulModW x y z w)
  have h13 : Good Try.prog R 27 ( ctrT asW (fun (x : BitVec 256) => .bool false (x.getLsbD 255))) := ctrT_ok (enc := W) (V := fun (x : BitVec 256) => .bool (x.getLsbD 255)) (fun h => asW_rel h) (enters_of Try.func27 (by kernel_rfl) rfl) (fun _ => rfl) (fun x w => refNegW x w)
  have h14 : Good Try.prog R 29 ( ctrTT asW asW (fun (x : BitVec 256) (y : BitVec 256) => .bool false (lessW x y))) := ctrTT_ok (ea := W) (eb := W) (V := fun (x : BitVec 256) (y : BitVec 256) => .bool (lessW x y)) (fun h => asW_rel h) (fun h => asW_rel h) (enters_of Try.func29 (by kernel_rfl) rfl) (fun _ _ => rfl) (fun x y w => refLessW x y w)
  have h15 : Good Try.prog R 17 ( ctrT asN (fun (x : BitVec 64) => wA (BitVec.ofNat 256 x.toNat))) := ctrT_ok (enc := (fun x : BitVec 64 => Value.int .u64 (x.toNat : Int))) (V := fun (x : BitVec 64) => W (BitVec.ofNat 256 x.toNat)) (fun h => asN_rel h) (enters_of Try.func17 (by kernel_rfl) rfl) (fun _ => told_wA _) (fun x w => refOfW x.toNat x.isLt w)
  have h16 : Good Try.prog R 36 ( ctrT asN (fun (x : BitVec 64) => wA (0#256 - BitVec.ofNat 256 x.toNat))) := ctrT_ok (enc := (fun x : BitVec 64 => Value.int .u64 (x.toNat : Int))) (V := fun (x : BitVec 64) => W (0#256 - BitVec.ofNat 256 x.toNat)) (fun h => asN_rel h) (enters_of Try.func36 (by kernel_rfl) rfl) (fun _ => told_wA _) (fun x w => lawBelowW x.toNat x.isLt w)
  have h17 : Good Try.prog R 19 ( ctrTT asW asW (fun (x : BitVec 256) (y : BitVec 256) => wA (x + y))) := ctrTT_ok (ea := W) (eb := W) (V := fun (x : BitVec 256) (y : BitVec 256) => W (x + y)) (fun h => asW_rel h) (fun h => asW_rel h) (enters_of Try.func19 (by kernel_rfl) rfl) (fun _ _ => told_wA _) (fun x y w => refAddW x y w)
  have h18 : Good Try.prog R 20 ( ctrTT asW asW (fun (x : BitVec 256) (y : BitVec 256) => wA (x * y))) := ctrTT_ok (ea := W) (eb := W) (V := fun (x : BitVec 256) (y : BitVec 256) => W (x * y)) (fun h => asW_rel h) (fun h => asW_rel h) (enters_of Try.func20 (by kernel_rfl) rfl) (fun _ _ => told_wA _) (fun x y w => refMulW x y w)
  have h19 : Good Try.prog R 18 ( ctrTT asW asW (fun (x : BitVec 256) (y : BitVec 256) => .int .i64 false (ordW x y))) := ctrTT_ok (ea := W) (eb := W) (V := fun (x : BitVec 256) (y : BitVec 256) => .int .i64 (ordW x y)) (fun h => asW_rel h) (fun h => asW_rel h) (enters_of Try.func18 (by kernel_rfl) rfl) (fun _ _ => rfl) (fun x y w => refOrderW x y w)
  exact good_cons (p := (_, _)) h0 (good_cons (p := (_, _)) h1 (good_cons (p := (_, _)) h2 (good_cons (p := (_, _)) h3 (good_cons (p := (_, _)) h4 (good_cons (p := (_, _)) h5 (good_cons (p := (_, _)) h6 (good_cons (p := (_, _)) h7 (good_cons (p := (_, _)) h8 (good_cons (p := (_, _)) h9 (good_cons (p := (_, _)) h10 (good_cons (p := (_, _)) h11 (good_cons (p := (_, _)) h12 (good_cons (p := (_, _)) h13 (good_cons (p := (_, _)) h14 (good_cons (p := (_, _)) h15 (good_cons (p := (_, _)) h16 (good_cons (p := (_, _)) h17 (good_cons (p := (_, _)) h18 (good_cons (p := (_, _)) h19 (good_nil))))))))))))))))))))
def ES_eqs : List (Nat × List IntKind) := [(24, List.replicate 4 .u64)]
theorem ES_eqs_ok : ∀ p ∈ ES_eqs, EqT Try.prog p.1 p.2 := eqs_cons (eqT_ints (P := Try.prog) (t := 24) (e := 22) (len := 4) (k := .u64) (by kernel_rfl) (by kernel_rfl) (by kernel_rfl)) (eqs_nil)
noncomputable def ES : Env := ⟨Try.prog, lookE ES_eqs, noRows, lookF tabS, fun _ => none, fun _ => false⟩
noncomputable def ESr (R : Rws) : Env := ⟨Try.prog, lookE ES_eqs, R, lookF tabS, fun _ => none, fun _ => false⟩
theorem hESr {R : Rws} (hR : RwOK R) : EnvOK (ESr R) := ⟨fun t ks h => lookE_ok ES_eqs_ok t ks h, hR, fun f F h => lookF_ok tabS_ok f F h, fun f F h => (by cases h), rfl⟩
theorem hES : EnvOK ES := ⟨fun t ks h => lookE_ok ES_eqs_ok t ks h, rwOK_no, fun f F h => lookF_ok tabS_ok f F h, fun f F h => (by cases h), rfl⟩
end

section
def msK (k : Nat) : ByteArray := ⟨([109, 115, 109, 103].take k).toArray⟩
def Z0 : BitVec 256 := mkW (BitVec.ofInt 64 0) (BitVec.ofInt 64 0) (BitVec.ofInt 64 0) (BitVec.ofInt 64 0)
def T255 : BitVec 256 := mkW (BitVec.ofInt 64 0) (BitVec.ofInt 64 0) (BitVec.ofInt 64 0) (BitVec.ofInt 64 9223372036854775808)
def hW (k : Nat) : List ABlk := [([.int .u64 true 0, .int .u64 true 0, .int .u64 true 0, .int .u64 true 0] ++ wC 1#256 ++ wC 2#256 ++ wC 4#256 ++ wC 7#256, 47), ([.raw (.string (msK k))], 9), (wC 12#256, 24), (wC 18#256, 24)]
theorem works_pre : ∀ r, Is (evCs ES 60 (takeSeq 5 (Try.f12.body.getD .skip)) ⟨pat (inLive 0 []) r 0 Try.f12.ntmps, ⟨[], [], fun _ => true⟩⟩ (chK [(1, .ptr 0 0), (2, .ptr 1 0), (3, .func (.func 37) [.ptr 2 0, .ptr 3 0])] Try.f12.ntmps (hW 0) [])) := fun r => ev_eq [] (chR [(1, .ptr 0 0), (2, .ptr 1 0), (3, .func (.func 37) [.ptr 2 0, .ptr 3 0])] Try.f12.ntmps (hW 0) []) (by kernel_rfl) trivial
def wXA (k : Nat) (x : BitVec 256) : List AV := [.agg [.int .u64 true (L x 0), .int .u64 true (L x 1), .int .u64 true (L x 2), .int .u64 true (L x 3)]]
noncomputable def c5 : Code := dropSeq 5 (Try.f12.body.getD .skip)
noncomputable def cRg : Code := dropSeq 1 (sL c5)
theorem works_r6 : ∀ r, Is (evCs ES 60 (takeSeq 1 (sL c5)) ⟨pat [(1, .ptr 0 0), (2, .ptr 1 0), (3, .func (.func 37) [.ptr 2 0, .ptr 3 0])] r 0 Try.f12.ntmps, ⟨hW 0, [], fun _ => true⟩⟩ (chK [(1, .ptr 0 0), (2, .ptr 1 0), (16, .func (.func 37) [.ptr 2 0, .ptr 3 0])] Try.f12.ntmps (hW 0) [])) := fun r => ev_eq [] (chR [(1, .ptr 0 0), (2, .ptr 1 0), (16, .func (.func 37) [.ptr 2 0, .ptr 3 0])] Try.f12.ntmps (hW 0) []) (by kernel_rfl) trivial
theorem works_round (k : Nat) (x : BitVec 256) (r : Nat → Value) (hx : [12#256, 18#256, 12#256, 6#256][k]? = some x) :
    Is (evR ES 60 4 (rgA cRg) (rgB cRg) ⟨setps (pat [(1, .ptr 0 0), (2, .ptr 1 0), (16, .func (.func 37) [.ptr 2 0, .ptr 3 0])] r 0 Try.f12.ntmps) (rgP cRg).toList (wXA k x), ⟨hW k, [], fun l => (fun _ => true) l && !memN l [2, 3]⟩⟩ (rndK false (rgI cRg) 4 (hW (k + 1)))) := by
  have hk : k < 4 := (List.getElem?_eq_some_iff.1 hx).1
  rcases (by omega : k = 0 ∨ k = 1 ∨ k = 2 ∨ k = 3) with rfl | rfl | rfl | rfl <;> (simp at hx; subst hx)
  · exact ev_eq [] (rndR false (hW 1)) (by kernel_rfl) trivial
  · exact ev_eq [] (rndR false (hW 2)) (by kernel_rfl) trivial
  · exact ev_eq [] (rndR false (hW 3)) (by kernel_rfl) trivial
  · exact ev_eq [] (rndR false (hW 4)) (by kernel_rfl) trivial
def wConds : List (Bool × Bool) := [(eqB (divW (re 7#256) (re 2#256)) 3#256, true), (eqZ4 (modW (re 7#256) Z0), true), (eqB (sdivW (re (0#256 - 7#256)) (re 2#256)) (0#256 - 3#256), true), (eqB (smodW (re (0#256 - 7#256)) (re 2#256)) (0#256 - 1#256), true), (eqB (addMW (re (0#256 - 1#256)) (re 2#256) (re 2#256)) 1#256, true), (eqB (mulMW T255 (re 4#256) (re 7#256)) 4#256, true)]
theorem wConds_ok : AllE wConds := allE_cons (by kernel_rfl) (allE_cons (by kernel_rfl) (allE_cons (by kernel_rfl) (allE_cons (by kernel_rfl) (allE_cons (by kernel_rfl) (allE_cons (by kernel_rfl) (allE_nil))))))
theorem works_rest : ∀ rs, Is (evT ES 60 (.code (sR c5)) ⟨pat [(1, .ptr 0 0), (2, .ptr 1 0), (16, .func (.func 37) [.ptr 2 0, .ptr 3 0])] rs 0 Try.f12.ntmps, ⟨hW 4, [true, true, true, true, true, true], fun _ => true⟩⟩ (retK ES Try.f12 (.bool true true))) := fun rs =>
  ev_eq wConds (some [AV.bool true true]) (by kernel_rfl) wConds_ok
set_option maxHeartbeats 4000000 in
theorem works_any (w : World) : Calls Try.prog 12 #[] w fun e w' => e = .returned (.bool true) ∧ Below w.heap.size w w' := by
  refine ev_enter (E := ES) (fn := Try.f12) (c := (Try.f12.body.getD .skip)) Try.func12 (by kernel_rfl) (args := []) (Args := []) (Nat.zero_le _) .nil (rd_no _ _) (ds := []) (wr := fun _ => true) fun a hP hB => ?_
  refine ev_seqs hES 60 5 works_pre hP hB fun a1 Hr1 w1 hP1 hB1 _ => ?_
  refine wp_parts (by kernel_rfl) ?_
  refine ev_seqs hES 60 1 works_r6 hP1 hB1 fun a2 Hr2 w2 hP2 hB2 _ => ?_
  refine ev_rangeAt hES 60 (m := ⟨hW 0, [], fun _ => true⟩) (live := [(1, .ptr 0 0), (2, .ptr 1 0), (16, .func (.func 37) [.ptr 2 0, .ptr 3 0])]) (n := Try.f12.ntmps) (caps := [.ptr 2 0, .ptr 3 0]) (xs := [12#256, 18#256, 12#256, 6#256]) (encs := encW) (by kernel_rfl) (fun _ => by kernel_rfl) (enters_of Try.func37 (by kernel_rfl) rfl) (by kernel_rfl) [2, 3] ?_ wXA (fun _ _ _ => rfl) (fun _ _ => rfl) hW rfl (fun _ => rfl) (fun _ => []) (fun _ => false) (fun k x r hx _ => works_round k x r hx) hP2 hB2 fun k a3 Hr3 w3 hE hP3 hB3 _ => ?_
  · intro lb hlb
    obtain ⟨rs, vs, _, _, hBl, hnd⟩ := hP2
    obtain ⟨b1, n1, hb1⟩ := blk_of hBl hB2.own.1 (l := 2) rfl (vals_wC 12#256)
    obtain ⟨b2, n2, hb2⟩ := blk_of hBl hB2.own.1 (l := 3) rfl (vals_wC 18#256)
    cases hlb with | cons h1 h2 => cases h2 with | cons h2 h3 =>
    cases h3
    obtain ⟨c1, m1, rfl⟩ := rel_ptr h1
    obtain ⟨c2, m2, rfl⟩ := rel_ptr h2
    obtain rfl := Option.some.inj (n1.symm.trans m1)
    obtain rfl := Option.some.inj (n2.symm.trans m2)
    have h := steps1_seq b1 b2 12#256 18#256 w2 (Sfz [2, 3] Hr2 w2) hb1 hb2 (sfz_of hnd hB2.own.1 n1 rfl) (sfz_of hnd hB2.own.1 n2 rfl)
    rw [steps_12_18] at h
    exact h
  · obtain rfl : k = 4 := by
      rcases hE with ⟨h, _⟩ | ⟨_, _, h, _⟩
      · exact h
      · cases h
    exact ev_rest hES 60 works_rest rfl (fun j r h => by cases h) hP3 hB3
end

section
theorem mulMW_one (a b : BitVec 256) : mulMW a 1#256 b = modW a b := by
  unfold mulMW modW
  by_cases h : b = 0#256
  · rw [if_pos h, if_pos h]
  · rw [if_neg h, if_neg h]
    apply BitVec.eq_of_toNat_eq
    rw [BitVec.toNat_ofNat, BitVec.toNat_umod, show (1#256 : BitVec 256).toNat = 1 from rfl, Nat.mul_one]
    exact Nat.mod_eq_of_lt (Nat.lt_of_le_of_lt (Nat.mod_le _ _) a.isLt)
theorem addMW_zero (a b : BitVec 256) : addMW a 0#256 b = modW a b := by
  unfold addMW modW
  by_cases h : b = 0#256
  · rw [if_pos h, if_pos h]
  · rw [if_neg h, if_neg h]
    apply BitVec.eq_of_toNat_eq
    rw [BitVec.toNat_ofNat, BitVec.toNat_umod, show (0#256 : BitVec 256).toNat = 0 from rfl, Nat.add_zero]
    exact Nat.mod_eq_of_lt (Nat.lt_of_le_of_lt (Nat.mod_le _ _) a.isLt)
theorem Z0_eq : mkW (BitVec.ofInt 64 0) (BitVec.ofInt 64 0) (BitVec.ofInt 64 0) (BitVec.ofInt 64 0) = 0#256 := by decide
theorem one_eq : BitVec.ofNat 256 (BitVec.ofInt 64 1).toNat = 1#256 := by decide
theorem eqB_of {x y : BitVec 256} (h : x = y) : eqB x y = true := by rw [eqB_eq]; simpa using h
theorem eqF_of {x y : BitVec 256} (h : x = y) : (false != eqB x y) = true := by rw [eqB_of h]; rfl
theorem neB_of {x y : BitVec 256} (h : x = y) : (true != eqB x y) = false := by rw [eqB_of h]; rfl
theorem eqZ4_eq (x : BitVec 256) : eqZ4 x = decide (x = 0#256) := by
  have h : eqZ4 x = eqB x 0#256 := by
    have k : ∀ y : BitVec 64, (((y.toNat : Nat) : Int) == 0) = (y == 0#64) := fun y => by
      rw [Bool.eq_iff_iff, beq_iff_eq, beq_iff_eq]
      constructor
      · intro h; apply BitVec.eq_of_toNat_eq; simp; omega
      · rintro rfl; rfl
    unfold eqZ4 eqB
    rw [k, k, k, k]; rfl
  rw [h, eqB_eq]
theorem ord_neg {x y : BitVec 256} (h : x.toNat < y.toNat) : decide (ordW x y < 0) = true := by unfold ordW; rw [if_pos h]; rfl
theorem div_mod (a b : BitVec 256) (h : ¬ b = 0#256) : divW a b * b + modW a b = a := by
  unfold divW modW
  rw [if_neg h, if_neg h]
  apply BitVec.eq_of_toNat_eq
  have ha := a.isLt
  have e : a.toNat / b.toNat * b.toNat + a.toNat % b.toNat = a.toNat := by rw [Nat.mul_comm]; exact Nat.div_add_mod _ _
  have hle : a.toNat / b.toNat * b.toNat ≤ a.toNat := by omega
  rw [BitVec.toNat_add, BitVec.toNat_mul, BitVec.toNat_udiv, BitVec.toNat_umod, Nat.mod_eq_of_lt (show a.toNat / b.toNat * b.toNat < 2 ^ 256 by omega), e, Nat.mod_eq_of_lt ha]
theorem abs_ne {b : BitVec 256} (h : ¬ b = 0#256) : ¬ absW b = 0#256 := by
  unfold absW
  split
  · intro h2
    apply h
    have := congrArg (fun z => b + z) h2
    simpa [BitVec.add_sub_cancel] using this.symm
  · exact h
theorem sdiv_smod (a b : BitVec 256) (h : ¬ b = 0#256) : sdivW a b * b + smodW a b = a := by
  have h1 := div_mod (absW a) (absW b) (abs_ne h)
  unfold sdivW smodW
  generalize divW (absW a) (absW b) = q at *
  generalize modW (absW a) (absW b) = r at *
  unfold absW at h1
  cases ha : a.getLsbD 255 <;> cases hb : b.getLsbD 255 <;> simp only [ha, hb, Bool.bne_true, Bool.bne_false, Bool.not_true, Bool.not_false, Bool.false_eq_true, if_true, if_false, bne_self_eq_false, beq_self_eq_true, Bool.true_bne, Bool.false_bne] at h1 ⊢
  · exact h1
  · rw [← h1]
    simp only [BitVec.zero_sub, BitVec.neg_mul, BitVec.mul_neg]
  · have h2 : a = 0#256 - (q * b + r) := by rw [h1]; simp
    rw [h2]
    simp only [BitVec.zero_sub, BitVec.neg_mul, BitVec.neg_add]
    rw [BitVec.sub_eq_add_neg]
  · have h2 : a = 0#256 - (q * (0#256 - b) + r) := by rw [h1]; simp
    rw [h2]
    simp only [BitVec.zero_sub, BitVec.mul_neg, BitVec.neg_add, BitVec.neg_neg]
    rw [BitVec.sub_eq_add_neg]
noncomputable def tabL : List (Nat × CtrF) := (12, ctr0 (.bool true true)) :: tabS
theorem tabL_ok {R : Rws} : ∀ p ∈ tabL, Good Try.prog R p.1 p.2 := good_cons (p := (_, _)) (ctr0_ok (enters_of Try.func12 (by kernel_rfl) rfl) rfl (fun w => works_any w)) tabS_ok
def EL_eqs : List (Nat × List IntKind) := [(24, List.replicate 4 .u64)]
theorem EL_eqs_ok : ∀ p ∈ EL_eqs, EqT Try.prog p.1 p.2 := eqs_cons (eqT_ints (P := Try.prog) (t := 24) (e := 22) (len := 4) (k := .u64) (by kernel_rfl) (by kernel_rfl) (by kernel_rfl)) (eqs_nil)
noncomputable def EL : Env := ⟨Try.prog, lookE EL_eqs, noRows, lookF tabL, fun _ => none, fun _ => false⟩
noncomputable def ELr (R : Rws) : Env := ⟨Try.prog, lookE EL_eqs, R, lookF tabL, fun _ => none, fun _ => false⟩
theorem hELr {R : Rws} (hR : RwOK R) : EnvOK (ELr R) := ⟨fun t ks h => lookE_ok EL_eqs_ok t ks h, hR, fun f F h => lookF_ok tabL_ok f F h, fun f F h => (by cases h), rfl⟩
theorem hEL : EnvOK EL := ⟨fun t ks h => lookE_ok EL_eqs_ok t ks h, rwOK_no, fun f F h => lookF_ok tabL_ok f F h, fun f F h => (by cases h), rfl⟩
theorem mods_ev (a b m : BitVec 256)  : Is (evCall EL 60 3 [wA a, wA b, wA m] ⟨[], [true, true], fun _ => true⟩ (fun v _ => v = .bool true true)) :=
  ev_eq [(false != eqB (addMW (re a) (re b) (re m)) (addMW (re a) (re b) (re m)), true), (false != eqB (mulMW (re a) (re b) (re m)) (mulMW (re a) (re b) (re m)), true)] (AV.bool true true) (by kernel_rfl) (allE_cons (eqF_of rfl) (allE_cons (eqF_of rfl) (allE_nil)))
theorem mods_any (a b m : BitVec 256)  (w : World) : Calls Try.prog 3 #[W a, W b, W m] w fun e w' => e = .returned (.bool true) ∧ Below w.heap.size w w' :=
  ev_calls hEL 60 (mods_ev a b m).is rfl (.cons (rel_wA _ a) (.cons (rel_wA _ b) (.cons (rel_wA _ m) .nil))) rfl w
theorem parts_ev (a b : BitVec 256)  : Is (evCall EL 60 7 [wA a, wA b] ⟨[], [true, true, true, true, true, true], fun _ => true⟩ (fun v _ => v = .bool true true)) :=
  ev_eq [(false != eqB (divW (re a) (re b)) (divW (re a) (re b)), true), (false != eqB (modW (re a) (re b)) (modW (re a) (re b)), true), (false != eqB (sdivW (re a) (re b)) (sdivW (re a) (re b)), true), (false != eqB (smodW (re a) (re b)) (smodW (re a) (re b)), true), (false != (((re a).getLsbD 255) == ((re a).getLsbD 255)), true), (false != ((lessW (re a) (re b)) == (lessW (re a) (re b))), true)] (AV.bool true true) (by kernel_rfl) (allE_cons (eqF_of rfl) (allE_cons (eqF_of rfl) (allE_cons (eqF_of rfl) (allE_cons (eqF_of rfl) (allE_cons (by cases h : ((re a).getLsbD 255) <;> rfl) (allE_cons (by cases h : lessW (re a) (re b) <;> rfl) (allE_nil)))))))
theorem parts_any (a b : BitVec 256)  (w : World) : Calls Try.prog 7 #[W a, W b] w fun e w' => e = .returned (.bool true) ∧ Below w.heap.size w w' :=
  ev_calls hEL 60 (parts_ev a b).is rfl (.cons (rel_wA _ a) (.cons (rel_wA _ b) .nil)) rfl w
theorem holds_z_ev (a b : BitVec 256) (h0 : b = 0#256) : Is (evCall EL 60 5 [wA a, wA b] ⟨[], [false, false, true, true, true], fun _ => true⟩ (fun v _ => v = .bool true true)) :=
  ev_eq [(true != eqB (mulMW (re a) (re (BitVec.ofNat 256 (BitVec.ofInt 64 1).toNat)) (re b)) (modW (re a) (re b)), false), (true != eqB (addMW (re a) (mkW (BitVec.ofInt 64 0) (BitVec.ofInt 64 0) (BitVec.ofInt 64 0) (BitVec.ofInt 64 0)) (re b)) (modW (re a) (re b)), false), (false != eqZ4 b, true), (false != eqB (divW (re a) (re b)) (b), true), (false != eqB (modW (re a) (re b)) (b), true)] (AV.bool true true) (by kernel_rfl) (allE_cons (neB_of (by rw [one_eq, re_eq 1#256]; exact mulMW_one _ _)) (allE_cons (neB_of (by rw [Z0_eq]; exact addMW_zero _ _)) (allE_cons (by rw [eqZ4_eq]; simpa using h0) (allE_cons (eqF_of (by subst h0; rw [re_eq, re_eq]; exact if_pos rfl)) (allE_cons (eqF_of (by subst h0; rw [re_eq, re_eq]; exact if_pos rfl)) (allE_nil))))))
theorem holds_z_any (a b : BitVec 256) (h0 : b = 0#256) (w : World) : Calls Try.prog 5 #[W a, W b] w fun e w' => e = .returned (.bool true) ∧ Below w.heap.size w w' :=
  ev_calls hEL 60 (holds_z_ev a b h0).is rfl (.cons (rel_wA _ a) (.cons (rel_wA _ b) .nil)) rfl w
theorem holds_n_ev (a b : BitVec 256) (h0 : ¬ b = 0#256) : Is (evCall EL 60 5 [wA a, wA b] ⟨[], [false, false, false, true, true, true], fun _ => true⟩ (fun v _ => v = .bool true true)) :=
  ev_eq [(true != eqB (mulMW (re a) (re (BitVec.ofNat 256 (BitVec.ofInt 64 1).toNat)) (re b)) (modW (re a) (re b)), false), (true != eqB (addMW (re a) (mkW (BitVec.ofInt 64 0) (BitVec.ofInt 64 0) (BitVec.ofInt 64 0) (BitVec.ofInt 64 0)) (re b)) (modW (re a) (re b)), false), (false != eqZ4 b, false), (decide (ordW (re (modW (re a) (re b))) (re b) < 0), true), (false != eqB ((re ((re (divW (re a) (re b))) * (re b))) + (re (modW (re a) (re b)))) (a), true), (false != eqB ((re ((re (sdivW (re a) (re b))) * (re b))) + (re (smodW (re a) (re b)))) (a), true)] (AV.bool true true) (by kernel_rfl) (allE_cons (neB_of (by rw [one_eq, re_eq 1#256]; exact mulMW_one _ _)) (allE_cons (neB_of (by rw [Z0_eq]; exact addMW_zero _ _)) (allE_cons (by rw [eqZ4_eq]; simpa using h0) (allE_cons (ord_neg (by rw [re_eq (modW _ _), re_eq, re_eq]; unfold modW; rw [if_neg h0, BitVec.toNat_umod]; exact Nat.mod_lt _ (pos_of_ne h0))) (allE_cons (eqF_of (by simp only [re_eq]; exact div_mod a b h0)) (allE_cons (eqF_of (by simp only [re_eq]; exact sdiv_smod a b h0)) (allE_nil)))))))
theorem holds_n_any (a b : BitVec 256) (h0 : ¬ b = 0#256) (w : World) : Calls Try.prog 5 #[W a, W b] w fun e w' => e = .returned (.bool true) ∧ Below w.heap.size w w' :=
  ev_calls hEL 60 (holds_n_ev a b h0).is rfl (.cons (rel_wA _ a) (.cons (rel_wA _ b) .nil)) rfl w
theorem holds_any (a b : BitVec 256) (w : World) : Calls Try.prog 5 #[W a, W b] w fun e w' => e = .returned (.bool true) ∧ Below w.heap.size w w' := by
  by_cases h : b = 0#256
  · exact holds_z_any a b h w
  · exact holds_n_any a b h w
theorem W_of (a0 a1 a2 a3 : Int) (h0 : (Lit.int .u64 a0).wf = true) (h1 : (Lit.int .u64 a1).wf = true) (h2 : (Lit.int .u64 a2).wf = true) (h3 : (Lit.int .u64 a3).wf = true) : ∃ x : BitVec 256, Value.agg #[.int .u64 a0, .int .u64 a1, .int .u64 a2, .int .u64 a3] = W x := by
  have b0 := bounds_u64 h0
  have b1 := bounds_u64 h1
  have b2 := bounds_u64 h2
  have b3 := bounds_u64 h3
  refine ⟨mkW (BitVec.ofInt 64 a0) (BitVec.ofInt 64 a1) (BitVec.ofInt 64 a2) (BitVec.ofInt 64 a3), ?_⟩
  rw [W_mkW]
  simp only [BitVec.toNat_ofInt]
  congr <;> omega
end

section
def hE0 (a b : BitVec 256) : List ABlk := [(wC a, 24), (wC b, 24), ([.int .u64 true 0, .int .u64 true 0, .int .u64 true 0, .int .u64 true 0], 24), (wC a, 24), (wC b, 24)]
def hE (a b y : BitVec 256) : List ABlk := [(wC a, 24), (wC b, 24), (wC y, 24), (wC a, 24), (wC b, 24)]
def lastS (xs : List (BitVec 256)) : Nat → BitVec 256
  | 0 => 0#256
  | k + 1 => xs.getD k 0#256
noncomputable def e4 : Code := dropSeq 4 (Try.f6.body.getD .skip)
noncomputable def eRg : Code := dropSeq 1 (sL e4)
theorem ends_pre (a b : BitVec 256) : ∀ r, Is (evCs EL 60 (takeSeq 4 (Try.f6.body.getD .skip)) ⟨pat (inLive 0 [wA a, wA b]) r 0 Try.f6.ntmps, ⟨[], [], fun _ => true⟩⟩ (chK [(2, .ptr 0 0), (3, .ptr 1 0), (5, .ptr 2 0), (6, .func (.func 37) [.ptr 3 0, .ptr 4 0])] Try.f6.ntmps (hE0 a b) [])) := fun r => ev_eq [] (chR [(2, .ptr 0 0), (3, .ptr 1 0), (5, .ptr 2 0), (6, .func (.func 37) [.ptr 3 0, .ptr 4 0])] Try.f6.ntmps (hE0 a b) []) (by kernel_rfl) trivial
theorem ends_5 (a b : BitVec 256) : ∀ r, Is (evCs EL 60 (takeSeq 1 (sL e4)) ⟨pat [(2, .ptr 0 0), (3, .ptr 1 0), (5, .ptr 2 0), (6, .func (.func 37) [.ptr 3 0, .ptr 4 0])] r 0 Try.f6.ntmps, ⟨hE0 a b, [], fun _ => true⟩⟩ (chK [(2, .ptr 0 0), (3, .ptr 1 0), (5, .ptr 2 0), (13, .func (.func 37) [.ptr 3 0, .ptr 4 0])] Try.f6.ntmps (hE0 a b) [])) := fun r => ev_eq [] (chR [(2, .ptr 0 0), (3, .ptr 1 0), (5, .ptr 2 0), (13, .func (.func 37) [.ptr 3 0, .ptr 4 0])] Try.f6.ntmps (hE0 a b) []) (by kernel_rfl) trivial
theorem ends_round (a b x y : BitVec 256) (r : Nat → Value) : Is (evR EL 60 5 (rgA eRg) (rgB eRg) ⟨setps (pat [(2, .ptr 0 0), (3, .ptr 1 0), (5, .ptr 2 0), (13, .func (.func 37) [.ptr 3 0, .ptr 4 0])] r 0 Try.f6.ntmps) (rgP eRg).toList [wA x], ⟨hE a b y, [], fun l => (fun _ => true) l && !memN l [3, 4]⟩⟩ (rndK false (rgI eRg) 5 (hE a b x))) := ev_eq [] (rndR false (hE a b x)) (by kernel_rfl) trivial
theorem ends_rest_z (a b y : BitVec 256) (h : AllE [(false != ((false != eqZ4 a) == (false != eqZ4 y)), true), (false != eqZ4 (modW (re a) (re y)), true), (false != eqZ4 a, true)]) : ∀ rs, Is (evT EL 60 (.code (sR e4)) ⟨pat [(2, .ptr 0 0), (3, .ptr 1 0), (5, .ptr 2 0), (13, .func (.func 37) [.ptr 3 0, .ptr 4 0])] rs 0 Try.f6.ntmps, ⟨hE a b y, [true, true, true], fun _ => true⟩⟩ (retK EL Try.f6 (.bool true true))) := fun rs =>
  ev_eq [(false != ((false != eqZ4 a) == (false != eqZ4 y)), true), (false != eqZ4 (modW (re a) (re y)), true), (false != eqZ4 a, true)] (some [AV.bool true true]) (by kernel_rfl) h
theorem ends_rest_n (a b y : BitVec 256) (h : AllE [(false != ((false != eqZ4 a) == (false != eqZ4 y)), true), (false != eqZ4 (modW (re a) (re y)), true), (false != eqZ4 a, false), (false != eqZ4 (modW (re b) (re y)), true)]) : ∀ rs, Is (evT EL 60 (.code (sR e4)) ⟨pat [(2, .ptr 0 0), (3, .ptr 1 0), (5, .ptr 2 0), (13, .func (.func 37) [.ptr 3 0, .ptr 4 0])] rs 0 Try.f6.ntmps, ⟨hE a b y, [true, true, false, true], fun _ => true⟩⟩ (retK EL Try.f6 (.bool true true))) := fun rs =>
  ev_eq [(false != ((false != eqZ4 a) == (false != eqZ4 y)), true), (false != eqZ4 (modW (re a) (re y)), true), (false != eqZ4 a, false), (false != eqZ4 (modW (re b) (re y)), true)] (some [AV.bool true true]) (by kernel_rfl) h
theorem plains_wA (x : BitVec 256) : AV.plains? [wA x] = some (encW 0 x).toList := by unfold encW; rw [W_limbs]; rfl
theorem zero_vals : AV.vals? [.int .u64 true 0, .int .u64 true 0, .int .u64 true 0, .int .u64 true 0] = some [.int .u64 (L 0#256 0), .int .u64 (L 0#256 1), .int .u64 (L 0#256 2), .int .u64 (L 0#256 3)] := by rw [L_zero, L_zero, L_zero, L_zero]; rfl
theorem last_z (b : BitVec 256) : lastS (stepsL 0#256 b) (stepsL 0#256 b).length = 0#256 := by unfold stepsL; rw [pairsL_nil]; rfl
theorem last_n (a b : BitVec 256) (h : ¬ a = 0#256) : ¬ lastS (stepsL a b) (stepsL a b).length = 0#256 ∧ modW a (lastS (stepsL a b) (stepsL a b).length) = 0#256 ∧ modW b (lastS (stepsL a b) (stepsL a b).length) = 0#256 := by
  obtain ⟨x, y, h1, h2, h3, h4⟩ := last_goes b.toNat a b (Nat.le_refl _) h
  have e : lastS (stepsL a b) (stepsL a b).length = x := by
    have hl : (stepsL a b).getLast? = some x := by unfold stepsL; rw [List.getLast?_map, h1]; rfl
    rw [List.getLast?_eq_getElem?] at hl
    rcases hn : (stepsL a b).length with _ | n
    · rw [List.length_eq_zero_iff.1 hn] at hl; cases hl
    · rw [hn] at hl
      simp only [Nat.add_sub_cancel] at hl
      simp [lastS, List.getD, hl]
  rw [e]
  refine ⟨h2, ?_, ?_⟩ <;> (unfold modW; rw [if_neg h2]; apply BitVec.eq_of_toNat_eq; rw [BitVec.toNat_umod]; first | exact h3 | exact h4)
set_option maxHeartbeats 4000000 in
theorem ends_any (a b : BitVec 256) (w : World) : Calls Try.prog 6 #[W a, W b] w fun e w' => e = .returned (.bool true) ∧ Below w.heap.size w w' := by
  refine ev_enter (E := EL) (fn := Try.f6) (c := (Try.f6.body.getD .skip)) Try.func6 (by kernel_rfl) (args := [wA a, wA b]) (Args := [W a, W b]) (show 2 ≤ Try.f6.ntmps by decide) (.cons (rel_wA _ a) (.cons (rel_wA _ b) .nil)) (rd_no _ _) (ds := []) (wr := fun _ => true) fun a0 hP hB => ?_
  refine ev_seqs hEL 60 4 (ends_pre a b) hP hB fun a1 Hr1 w1 hP1 hB1 _ => ?_
  refine wp_parts (by kernel_rfl) ?_
  refine ev_seqs hEL 60 1 (ends_5 a b) hP1 hB1 fun a2 Hr2 w2 hP2 hB2 _ => ?_
  have hP2' : PatSt EL.rows _ [(2, .ptr 0 0), (3, .ptr 1 0), (5, .ptr 2 0), (13, .func (.func 37) [.ptr 3 0, .ptr 4 0])] Try.f6.ntmps ⟨hE a b 0#256, [], fun _ => true⟩ a2 Hr2 := patSt_cells (l := 2) (H := hE0 a b) (cs' := wC 0#256) rfl zero_vals (vals_wC _) hP2
  have hlast : ∀ k x, (stepsL a b)[k]? = some x → lastS (stepsL a b) (k + 1) = x := fun k x hx => by simp [lastS, List.getD, hx]
  refine ev_rangeAt hEL 60 (m := ⟨hE a b 0#256, [], fun _ => true⟩) (live := [(2, .ptr 0 0), (3, .ptr 1 0), (5, .ptr 2 0), (13, .func (.func 37) [.ptr 3 0, .ptr 4 0])]) (n := Try.f6.ntmps) (caps := [.ptr 3 0, .ptr 4 0]) (xs := stepsL a b) (encs := encW) (by kernel_rfl) (fun _ => by kernel_rfl) (enters_of Try.func37 (by kernel_rfl) rfl) (by kernel_rfl) [3, 4] ?_ (fun _ x => [wA x]) (fun k x _ => plains_wA x) (fun _ _ => rfl) (fun k => hE a b (lastS (stepsL a b) k)) rfl (fun _ => rfl) (fun _ => []) (fun _ => false)
    (fun k x r hx _ => ?_) hP2' hB2 fun k a3 Hr3 w3 hEn hP3 hB3 _ => ?_
  · intro lb hlb
    obtain ⟨rs, vs, _, _, hBl, hnd⟩ := hP2'
    obtain ⟨b1, n1, hb1⟩ := blk_of hBl hB2.own.1 (l := 3) rfl (vals_wC a)
    obtain ⟨b2, n2, hb2⟩ := blk_of hBl hB2.own.1 (l := 4) rfl (vals_wC b)
    cases hlb with | cons h1 h2 => cases h2 with | cons h2 h3 =>
    cases h3
    obtain ⟨c1, m1, rfl⟩ := rel_ptr h1
    obtain ⟨c2, m2, rfl⟩ := rel_ptr h2
    obtain rfl := Option.some.inj (n1.symm.trans m1)
    obtain rfl := Option.some.inj (n2.symm.trans m2)
    exact steps1_seq b1 b2 a b w2 (Sfz [3, 4] Hr2 w2) hb1 hb2 (sfz_of hnd hB2.own.1 n1 rfl) (sfz_of hnd hB2.own.1 n2 rfl)
  · have e := hlast k x hx
    change Is (evR _ _ _ _ _ _ (rndK _ _ _ (hE a b (lastS (stepsL a b) (k + 1)))))
    rw [e]
    exact ends_round a b x (lastS (stepsL a b) k) r
  · obtain rfl : k = (stepsL a b).length := by
      rcases hEn with ⟨h, _⟩ | ⟨_, _, h, _⟩
      · exact h
      · cases h
    by_cases h0 : a = 0#256
    · have hy : lastS (stepsL a b) (stepsL a b).length = 0#256 := by rw [h0]; exact last_z b
      generalize lastS (stepsL a b) (stepsL a b).length = y at *
      subst hy; subst h0
      exact ev_rest hEL 60 (ends_rest_z 0#256 b 0#256 (allE_cons (by decide) (allE_cons (by decide) (allE_cons (by decide) allE_nil)))) rfl (fun j r h => by cases h) hP3 hB3
    · obtain ⟨g1, g2, g3⟩ := last_n a b h0
      generalize lastS (stepsL a b) (stepsL a b).length = y at *
      refine ev_rest hEL 60 (ends_rest_n a b y (allE_cons ?_ (allE_cons ?_ (allE_cons ?_ (allE_cons ?_ allE_nil))))) rfl (fun j r h => by cases h) hP3 hB3
      · rw [eqZ4_eq, eqZ4_eq]; simp [h0, g1]
      · rw [eqZ4_eq, re_eq, re_eq]; simpa using g2
      · rw [eqZ4_eq]; simpa using h0
      · rw [eqZ4_eq, re_eq, re_eq]; simpa using g3
end

section
noncomputable def s1 : Code := dropSeq 1 (Try.f4.body.getD .skip)
noncomputable def s3 : Code := dropSeq 2 (sR s1)
noncomputable def sB : Code := lpB (bkB (dropSeq 1 (sL s3)))
noncomputable def sB1 : Code := dropSeq 1 sB
noncomputable def sX : Code := bkB (sL sB1)
noncomputable def sX1 : Code := dropSeq 1 sX
noncomputable def sRg : Code := dropSeq 1 (sL sX1)
def mA (a b : BitVec 256) (many : Int) : List ABlk := [(wC a, 24), (wC b, 24), ([.int .i64 false many], 3), ([.bool true false], 4)]
def mB (a b : BitVec 256) (many : Int) (A : Option Addr) (xs : List (BitVec 256)) (c : Nat) : List ABlk := mA a b many ++ [([.rsl 0 (rowW A xs).n c], 28), (wC a, 24), (wC b, 24)]
theorem st_a (a b : BitVec 256) (many : Int) : ∀ r, Is (evCs EL 60 (takeSeq 1 (Try.f4.body.getD .skip)) ⟨pat (inLive 0 [wA a, wA b, .int .i64 false many]) r 0 Try.f4.ntmps, ⟨[], [], fun _ => true⟩⟩ (chK [(3, .ptr 0 0), (4, .ptr 1 0), (5, .ptr 2 0), (6, .ptr 3 0)] Try.f4.ntmps (mA a b many) [])) := fun r => ev_eq [] (chR [(3, .ptr 0 0), (4, .ptr 1 0), (5, .ptr 2 0), (6, .ptr 3 0)] Try.f4.ntmps (mA a b many) []) (by kernel_rfl) trivial
theorem st_b (a b : BitVec 256) (many : Int) : ∀ r, Is (listP EL (callWith EL (evT EL 60)) (regOps (sL s1)) ((regOps (sL s1)).take 2) ⟨pat [(3, .ptr 0 0), (4, .ptr 1 0), (5, .ptr 2 0), (6, .ptr 3 0)] r 0 Try.f4.ntmps, ⟨mA a b many, [], fun _ => true⟩⟩ (chK [(12, wA a), (13, wA b), (3, .ptr 0 0), (4, .ptr 1 0), (5, .ptr 2 0), (6, .ptr 3 0)] Try.f4.ntmps (mA a b many) [] .normal)) := fun r => ev_eq [] (chR [(12, wA a), (13, wA b), (3, .ptr 0 0), (4, .ptr 1 0), (5, .ptr 2 0), (6, .ptr 3 0)] Try.f4.ntmps (mA a b many) []) (by kernel_rfl) trivial
theorem st_c (a b : BitVec 256) (many : Int) (A : Option Addr) (xs : List (BitVec 256)) (c : Nat) : ∀ r, Is (listP (ELr (rows1 (rowW A xs))) (callWith (ELr (rows1 (rowW A xs))) (evT (ELr (rows1 (rowW A xs))) 60)) (regOps (sL s1)) (((regOps (sL s1)).drop 2).tail.take 2) ⟨pat [(14, .rsl 0 (rowW A xs).n c), (12, wA a), (13, wA b), (3, .ptr 0 0), (4, .ptr 1 0), (5, .ptr 2 0), (6, .ptr 3 0)] r 0 Try.f4.ntmps, ⟨mA a b many, [], fun _ => true⟩⟩ (chK [(3, .ptr 0 0), (4, .ptr 1 0), (5, .ptr 2 0), (6, .ptr 3 0), (7, .ptr 4 0)] Try.f4.ntmps (mA a b many ++ [([.rsl 0 (rowW A xs).n c], 28)]) [] .normal)) := fun r => ev_eq [] (chR [(3, .ptr 0 0), (4, .ptr 1 0), (5, .ptr 2 0), (6, .ptr 3 0), (7, .ptr 4 0)] Try.f4.ntmps (mA a b many ++ [([.rsl 0 (rowW A xs).n c], 28)]) []) (by kernel_rfl) trivial
theorem st_d (a b : BitVec 256) (many : Int) (A : Option Addr) (xs : List (BitVec 256)) (c : Nat) : ∀ r, Is (evCs (ELr (rows1 (rowW A xs))) 60 (takeSeq 2 (sR s1)) ⟨pat [(3, .ptr 0 0), (4, .ptr 1 0), (5, .ptr 2 0), (6, .ptr 3 0), (7, .ptr 4 0)] r 0 Try.f4.ntmps, ⟨mA a b many ++ [([.rsl 0 (rowW A xs).n c], 28)], [], fun _ => true⟩⟩ (chK [(3, .ptr 0 0), (4, .ptr 1 0), (5, .ptr 2 0), (6, .ptr 3 0), (7, .ptr 4 0), (8, .func (.func 37) [.ptr 5 0, .ptr 6 0])] Try.f4.ntmps (mB a b many A xs c) [])) := fun r => ev_eq [] (chR [(3, .ptr 0 0), (4, .ptr 1 0), (5, .ptr 2 0), (6, .ptr 3 0), (7, .ptr 4 0), (8, .func (.func 37) [.ptr 5 0, .ptr 6 0])] Try.f4.ntmps (mB a b many A xs c) []) (by kernel_rfl) trivial
theorem st_e (a b : BitVec 256) (many : Int) (A : Option Addr) (xs : List (BitVec 256)) (c : Nat) : ∀ r, Is (evCs (ELr (rows1 (rowW A xs))) 60 (takeSeq 1 (sL s3)) ⟨pat [(3, .ptr 0 0), (4, .ptr 1 0), (5, .ptr 2 0), (6, .ptr 3 0), (7, .ptr 4 0), (8, .func (.func 37) [.ptr 5 0, .ptr 6 0])] r 0 Try.f4.ntmps, ⟨mB a b many A xs c, [], fun _ => true⟩⟩ (chK [(3, .ptr 0 0), (4, .ptr 1 0), (5, .ptr 2 0), (6, .ptr 3 0), (7, .ptr 4 0), (8, .func (.func 37) [.ptr 5 0, .ptr 6 0]), (9, .ptr 7 0)] Try.f4.ntmps (mB a b many A xs c ++ [([.int .i64 true 0], 3)]) [])) := fun r => ev_eq [] (chR [(3, .ptr 0 0), (4, .ptr 1 0), (5, .ptr 2 0), (6, .ptr 3 0), (7, .ptr 4 0), (8, .func (.func 37) [.ptr 5 0, .ptr 6 0]), (9, .ptr 7 0)] Try.f4.ntmps (mB a b many A xs c ++ [([.int .i64 true 0], 3)]) []) (by kernel_rfl) trivial
theorem st_f0 (a b : BitVec 256) (many : Int) (A : Option Addr) (xs : List (BitVec 256)) (c : Nat) : ∀ r, Is (evCs (ELr (rows1 (rowW A xs))) 60 (takeSeq 1 sB) ⟨pat [(3, .ptr 0 0), (4, .ptr 1 0), (5, .ptr 2 0), (6, .ptr 3 0), (7, .ptr 4 0), (8, .func (.func 37) [.ptr 5 0, .ptr 6 0]), (9, .ptr 7 0)] r 0 Try.f4.ntmps, ⟨mB a b many A xs c ++ [([.int .i64 true 0], 3)], [], fun _ => true⟩⟩ (chK [(3, .ptr 0 0), (4, .ptr 1 0), (5, .ptr 2 0), (6, .ptr 3 0), (7, .ptr 4 0), (8, .func (.func 37) [.ptr 5 0, .ptr 6 0]), (9, .ptr 7 0)] Try.f4.ntmps (mB a b many A xs c ++ [([.int .i64 true 0], 3)]) [])) := fun r => ev_eq [] (chR [(3, .ptr 0 0), (4, .ptr 1 0), (5, .ptr 2 0), (6, .ptr 3 0), (7, .ptr 4 0), (8, .func (.func 37) [.ptr 5 0, .ptr 6 0]), (9, .ptr 7 0)] Try.f4.ntmps (mB a b many A xs c ++ [([.int .i64 true 0], 3)]) []) (by kernel_rfl) trivial
theorem st_g0 (a b : BitVec 256) (many : Int) (A : Option Addr) (xs : List (BitVec 256)) (c : Nat) : ∀ r, Is (evCs (ELr (rows1 (rowW A xs))) 60 (takeSeq 1 sX) ⟨pat [(3, .ptr 0 0), (4, .ptr 1 0), (5, .ptr 2 0), (6, .ptr 3 0), (7, .ptr 4 0), (8, .func (.func 37) [.ptr 5 0, .ptr 6 0]), (9, .ptr 7 0)] r 0 Try.f4.ntmps, ⟨mB a b many A xs c ++ [([.int .i64 true 0], 3)], [], fun _ => true⟩⟩ (chK [(3, .ptr 0 0), (4, .ptr 1 0), (5, .ptr 2 0), (6, .ptr 3 0), (7, .ptr 4 0), (8, .func (.func 37) [.ptr 5 0, .ptr 6 0]), (9, .ptr 7 0), (10, .ptr 8 0)] Try.f4.ntmps (mB a b many A xs c ++ [([.int .i64 true 0], 3), ([.int .i64 true 0], 3)]) [])) := fun r => ev_eq [] (chR [(3, .ptr 0 0), (4, .ptr 1 0), (5, .ptr 2 0), (6, .ptr 3 0), (7, .ptr 4 0), (8, .func (.func 37) [.ptr 5 0, .ptr 6 0]), (9, .ptr 7 0), (10, .ptr 8 0)] Try.f4.ntmps (mB a b many A xs c ++ [([.int .i64 true 0], 3), ([.int .i64 true 0], 3)]) []) (by kernel_rfl) trivial
theorem st_h0 (a b : BitVec 256) (many : Int) (A : Option Addr) (xs : List (BitVec 256)) (c : Nat) : ∀ r, Is (evCs (ELr (rows1 (rowW A xs))) 60 (takeSeq 1 (sL sX1)) ⟨pat [(3, .ptr 0 0), (4, .ptr 1 0), (5, .ptr 2 0), (6, .ptr 3 0), (7, .ptr 4 0), (8, .func (.func 37) [.ptr 5 0, .ptr 6 0]), (9, .ptr 7 0), (10, .ptr 8 0)] r 0 Try.f4.ntmps, ⟨mB a b many A xs c ++ [([.int .i64 true 0], 3), ([.int .i64 true 0], 3)], [], fun _ => true⟩⟩ (chK [(3, .ptr 0 0), (4, .ptr 1 0), (5, .ptr 2 0), (6, .ptr 3 0), (7, .ptr 4 0), (8, .func (.func 37) [.ptr 5 0, .ptr 6 0]), (9, .ptr 7 0), (10, .ptr 8 0), (24, .func (.func 37) [.ptr 5 0, .ptr 6 0])] Try.f4.ntmps (mB a b many A xs c ++ [([.int .i64 true 0], 3), ([.int .i64 true 0], 3)]) [])) := fun r => ev_eq [] (chR [(3, .ptr 0 0), (4, .ptr 1 0), (5, .ptr 2 0), (6, .ptr 3 0), (7, .ptr 4 0), (8, .func (.func 37) [.ptr 5 0, .ptr 6 0]), (9, .ptr 7 0), (10, .ptr 8 0), (24, .func (.func 37) [.ptr 5 0, .ptr 6 0])] Try.f4.ntmps (mB a b many A xs c ++ [([.int .i64 true 0], 3), ([.int .i64 true 0], 3)]) []) (by kernel_rfl) trivial
theorem st_r0t (a b : BitVec 256) (many : Int) (A : Option Addr) (xs : List (BitVec 256)) (c : Nat) (v : Int) (x : BitVec 256) (h : AllE [(decide (v ≥ (xs.length : Int)), false), (decide (0 ≤ v ∧ v < (xs.length : Int)), true), (true != eqB x (xs.getD v.toNat 0#256), false), (decide (IntKind.i64.wrap (v + 1) ≥ many), true)]) (r : Nat → Value) : Is (evR (ELr (rows1 (rowW A xs))) 60 9 (rgA sRg) (rgB sRg) ⟨setps (pat [(3, .ptr 0 0), (4, .ptr 1 0), (5, .ptr 2 0), (6, .ptr 3 0), (7, .ptr 4 0), (8, .func (.func 37) [.ptr 5 0, .ptr 6 0]), (9, .ptr 7 0), (10, .ptr 8 0), (24, .func (.func 37) [.ptr 5 0, .ptr 6 0])] r 0 Try.f4.ntmps) (rgP sRg).toList [wA x], ⟨mB a b many A xs c ++ [([.int .i64 true 0], 3), ([.int .i64 false v], 3)], [false, false, true], fun l => (fun _ => true) l && !memN l [5, 6]⟩⟩ (rndK true (rgI sRg) 9 (mB a b many A xs c ++ [([.int .i64 true 0], 3), ([.int .i64 false (IntKind.i64.wrap (v + 1))], 3)]))) :=
  ev_eq [(decide (v ≥ (xs.length : Int)), false), (decide (0 ≤ v ∧ v < (xs.length : Int)), true), (true != eqB x (xs.getD v.toNat 0#256), false), (decide (IntKind.i64.wrap (v + 1) ≥ many), true)] (rndR true (mB a b many A xs c ++ [([.int .i64 true 0], 3), ([.int .i64 false (IntKind.i64.wrap (v + 1))], 3)])) (by kernel_rfl) h
theorem st_r0f (a b : BitVec 256) (many : Int) (A : Option Addr) (xs : List (BitVec 256)) (c : Nat) (v : Int) (x : BitVec 256) (h : AllE [(decide (v ≥ (xs.length : Int)), false), (decide (0 ≤ v ∧ v < (xs.length : Int)), true), (true != eqB x (xs.getD v.toNat 0#256), false), (decide (IntKind.i64.wrap (v + 1) ≥ many), false)]) (r : Nat → Value) : Is (evR (ELr (rows1 (rowW A xs))) 60 9 (rgA sRg) (rgB sRg) ⟨setps (pat [(3, .ptr 0 0), (4, .ptr 1 0), (5, .ptr 2 0), (6, .ptr 3 0), (7, .ptr 4 0), (8, .func (.func 37) [.ptr 5 0, .ptr 6 0]), (9, .ptr 7 0), (10, .ptr 8 0), (24, .func (.func 37) [.ptr 5 0, .ptr 6 0])] r 0 Try.f4.ntmps) (rgP sRg).toList [wA x], ⟨mB a b many A xs c ++ [([.int .i64 true 0], 3), ([.int .i64 false v], 3)], [false, false, false], fun l => (fun _ => true) l && !memN l [5, 6]⟩⟩ (rndK false (rgI sRg) 9 (mB a b many A xs c ++ [([.int .i64 true 0], 3), ([.int .i64 false (IntKind.i64.wrap (v + 1))], 3)]))) :=
  ev_eq [(decide (v ≥ (xs.length : Int)), false), (decide (0 ≤ v ∧ v < (xs.length : Int)), true), (true != eqB x (xs.getD v.toNat 0#256), false), (decide (IntKind.i64.wrap (v + 1) ≥ many), false)] (rndR false (mB a b many A xs c ++ [([.int .i64 true 0], 3), ([.int .i64 false (IntKind.i64.wrap (v + 1))], 3)])) (by kernel_rfl) h
theorem st_i0 (a b : BitVec 256) (many : Int) (A : Option Addr) (xs : List (BitVec 256)) (c : Nat) (u : Int) (h : AllE [(u != (if (if many > 1 then many else 1) < (xs.length : Int) then (if many > 1 then many else 1) else (xs.length : Int)), false)]) : ∀ r, Is (evT (ELr (rows1 (rowW A xs))) 60 (.code (sR sX1)) ⟨pat [(3, .ptr 0 0), (4, .ptr 1 0), (5, .ptr 2 0), (6, .ptr 3 0), (7, .ptr 4 0), (8, .func (.func 37) [.ptr 5 0, .ptr 6 0]), (9, .ptr 7 0), (10, .ptr 8 0), (24, .func (.func 37) [.ptr 5 0, .ptr 6 0])] r 0 Try.f4.ntmps, ⟨mB a b many A xs c ++ [([.int .i64 true 0], 3), ([.int .i64 false u], 3)], [false], fun _ => true⟩⟩ (chE .normal [(3, .ptr 0 0), (4, .ptr 1 0), (5, .ptr 2 0), (6, .ptr 3 0), (7, .ptr 4 0), (8, .func (.func 37) [.ptr 5 0, .ptr 6 0]), (9, .ptr 7 0), (10, .ptr 8 0)] Try.f4.ntmps (mB a b many A xs c ++ [([.int .i64 true 0], 3), ([.int .i64 false u], 3)]) [])) := fun r => ev_eq [(u != (if (if many > 1 then many else 1) < (xs.length : Int) then (if many > 1 then many else 1) else (xs.length : Int)), false)] (chR [(3, .ptr 0 0), (4, .ptr 1 0), (5, .ptr 2 0), (6, .ptr 3 0), (7, .ptr 4 0), (8, .func (.func 37) [.ptr 5 0, .ptr 6 0]), (9, .ptr 7 0), (10, .ptr 8 0)] Try.f4.ntmps (mB a b many A xs c ++ [([.int .i64 true 0], 3), ([.int .i64 false u], 3)]) []) (by kernel_rfl) h
theorem st_j0 (a b : BitVec 256) (many : Int) (A : Option Addr) (xs : List (BitVec 256)) (c : Nat) (u : Int) : ∀ r, Is (evT (ELr (rows1 (rowW A xs))) 60 (.code (sR sB1)) ⟨pat [(3, .ptr 0 0), (4, .ptr 1 0), (5, .ptr 2 0), (6, .ptr 3 0), (7, .ptr 4 0), (8, .func (.func 37) [.ptr 5 0, .ptr 6 0]), (9, .ptr 7 0), (10, .ptr 8 0)] r 0 Try.f4.ntmps, ⟨mB a b many A xs c ++ [([.int .i64 true 0], 3), ([.int .i64 false u], 3)], [], fun _ => true⟩⟩ (chE .normal [(3, .ptr 0 0), (4, .ptr 1 0), (5, .ptr 2 0), (6, .ptr 3 0), (7, .ptr 4 0), (8, .func (.func 37) [.ptr 5 0, .ptr 6 0]), (9, .ptr 9 0)] Try.f4.ntmps (mB a b many A xs c ++ [([.int .i64 true 0], 3), ([.int .i64 false u], 3), ([.int .i64 true 1], 3)]) [])) := fun r => ev_eq [] (chR [(3, .ptr 0 0), (4, .ptr 1 0), (5, .ptr 2 0), (6, .ptr 3 0), (7, .ptr 4 0), (8, .func (.func 37) [.ptr 5 0, .ptr 6 0]), (9, .ptr 9 0)] Try.f4.ntmps (mB a b many A xs c ++ [([.int .i64 true 0], 3), ([.int .i64 false u], 3), ([.int .i64 true 1], 3)]) []) (by kernel_rfl) trivial
theorem st_f1 (a b : BitVec 256) (many : Int) (A : Option Addr) (xs : List (BitVec 256)) (c : Nat) (u : Int) : ∀ r, Is (evCs (ELr (rows1 (rowW A xs))) 60 (takeSeq 1 sB) ⟨pat [(3, .ptr 0 0), (4, .ptr 1 0), (5, .ptr 2 0), (6, .ptr 3 0), (7, .ptr 4 0), (8, .func (.func 37) [.ptr 5 0, .ptr 6 0]), (9, .ptr 9 0)] r 0 Try.f4.ntmps, ⟨mB a b many A xs c ++ [([.int .i64 true 0], 3), ([.int .i64 false u], 3), ([.int .i64 true 1], 3)], [], fun _ => true⟩⟩ (chK [(3, .ptr 0 0), (4, .ptr 1 0), (5, .ptr 2 0), (6, .ptr 3 0), (7, .ptr 4 0), (8, .func (.func 37) [.ptr 5 0, .ptr 6 0]), (9, .ptr 9 0)] Try.f4.ntmps (mB a b many A xs c ++ [([.int .i64 true 0], 3), ([.int .i64 false u], 3), ([.int .i64 true 1], 3)]) [])) := fun r => ev_eq [] (chR [(3, .ptr 0 0), (4, .ptr 1 0), (5, .ptr 2 0), (6, .ptr 3 0), (7, .ptr 4 0), (8, .func (.func 37) [.ptr 5 0, .ptr 6 0]), (9, .ptr 9 0)] Try.f4.ntmps (mB a b many A xs c ++ [([.int .i64 true 0], 3), ([.int .i64 false u], 3), ([.int .i64 true 1], 3)]) []) (by kernel_rfl) trivial
theorem st_g1 (a b : BitVec 256) (many : Int) (A : Option Addr) (xs : List (BitVec 256)) (c : Nat) (u : Int) : ∀ r, Is (evCs (ELr (rows1 (rowW A xs))) 60 (takeSeq 1 sX) ⟨pat [(3, .ptr 0 0), (4, .ptr 1 0), (5, .ptr 2 0), (6, .ptr 3 0), (7, .ptr 4 0), (8, .func (.func 37) [.ptr 5 0, .ptr 6 0]), (9, .ptr 9 0)] r 0 Try.f4.ntmps, ⟨mB a b many A xs c ++ [([.int .i64 true 0], 3), ([.int .i64 false u], 3), ([.int .i64 true 1], 3)], [], fun _ => true⟩⟩ (chK [(3, .ptr 0 0), (4, .ptr 1 0), (5, .ptr 2 0), (6, .ptr 3 0), (7, .ptr 4 0), (8, .func (.func 37) [.ptr 5 0, .ptr 6 0]), (9, .ptr 9 0), (10, .ptr 10 0)] Try.f4.ntmps (mB a b many A xs c ++ [([.int .i64 true 0], 3), ([.int .i64 false u], 3), ([.int .i64 true 1], 3), ([.int .i64 true 0], 3)]) [])) := fun r => ev_eq [] (chR [(3, .ptr 0 0), (4, .ptr 1 0), (5, .ptr 2 0), (6, .ptr 3 0), (7, .ptr 4 0), (8, .func (.func 37) [.ptr 5 0, .ptr 6 0]), (9, .ptr 9 0), (10, .ptr 10 0)] Try.f4.ntmps (mB a b many A xs c ++ [([.int .i64 true 0], 3), ([.int .i64 false u], 3), ([.int .i64 true 1], 3), ([.int .i64 true 0], 3)]) []) (by kernel_rfl) trivial
theorem st_h1 (a b : BitVec 256) (many : Int) (A : Option Addr) (xs : List (BitVec 256)) (c : Nat) (u : Int) : ∀ r, Is (evCs (ELr (rows1 (rowW A xs))) 60 (takeSeq 1 (sL sX1)) ⟨pat [(3, .ptr 0 0), (4, .ptr 1 0), (5, .ptr 2 0), (6, .ptr 3 0), (7, .ptr 4 0), (8, .func (.func 37) [.ptr 5 0, .ptr 6 0]), (9, .ptr 9 0), (10, .ptr 10 0)] r 0 Try.f4.ntmps, ⟨mB a b many A xs c ++ [([.int .i64 true 0], 3), ([.int .i64 false u], 3), ([.int .i64 true 1], 3), ([.int .i64 true 0], 3)], [], fun _ => true⟩⟩ (chK [(3, .ptr 0 0), (4, .ptr 1 0), (5, .ptr 2 0), (6, .ptr 3 0), (7, .ptr 4 0), (8, .func (.func 37) [.ptr 5 0, .ptr 6 0]), (9, .ptr 9 0), (10, .ptr 10 0), (24, .func (.func 37) [.ptr 5 0, .ptr 6 0])] Try.f4.ntmps (mB a b many A xs c ++ [([.int .i64 true 0], 3), ([.int .i64 false u], 3), ([.int .i64 true 1], 3), ([.int .i64 true 0], 3)]) [])) := fun r => ev_eq [] (chR [(3, .ptr 0 0), (4, .ptr 1 0), (5, .ptr 2 0), (6, .ptr 3 0), (7, .ptr 4 0), (8, .func (.func 37) [.ptr 5 0, .ptr 6 0]), (9, .ptr 9 0), (10, .ptr 10 0), (24, .func (.func 37) [.ptr 5 0, .ptr 6 0])] Try.f4.ntmps (mB a b many A xs c ++ [([.int .i64 true 0], 3), ([.int .i64 false u], 3), ([.int .i64 true 1], 3), ([.int .i64 true 0], 3)]) []) (by kernel_rfl) trivial
theorem st_r1 (a b : BitVec 256) (many : Int) (A : Option Addr) (xs : List (BitVec 256)) (c : Nat) (v : Int) (u : Int) (x : BitVec 256) (h : AllE [(decide (v ≥ (xs.length : Int)), false), (decide (0 ≤ v ∧ v < (xs.length : Int)), true), (true != eqB x (xs.getD v.toNat 0#256), false)]) (r : Nat → Value) : Is (evR (ELr (rows1 (rowW A xs))) 60 11 (rgA sRg) (rgB sRg) ⟨setps (pat [(3, .ptr 0 0), (4, .ptr 1 0), (5, .ptr 2 0), (6, .ptr 3 0), (7, .ptr 4 0), (8, .func (.func 37) [.ptr 5 0, .ptr 6 0]), (9, .ptr 9 0), (10, .ptr 10 0), (24, .func (.func 37) [.ptr 5 0, .ptr 6 0])] r 0 Try.f4.ntmps) (rgP sRg).toList [wA x], ⟨mB a b many A xs c ++ [([.int .i64 true 0], 3), ([.int .i64 false u], 3), ([.int .i64 true 1], 3), ([.int .i64 false v], 3)], [false, false], fun l => (fun _ => true) l && !memN l [5, 6]⟩⟩ (rndK false (rgI sRg) 11 (mB a b many A xs c ++ [([.int .i64 true 0], 3), ([.int .i64 false u], 3), ([.int .i64 true 1], 3), ([.int .i64 false (IntKind.i64.wrap (v + 1))], 3)]))) :=
  ev_eq [(decide (v ≥ (xs.length : Int)), false), (decide (0 ≤ v ∧ v < (xs.length : Int)), true), (true != eqB x (xs.getD v.toNat 0#256), false)] (rndR false (mB a b many A xs c ++ [([.int .i64 true 0], 3), ([.int .i64 false u], 3), ([.int .i64 true 1], 3), ([.int .i64 false (IntKind.i64.wrap (v + 1))], 3)])) (by kernel_rfl) h
theorem st_i1 (a b : BitVec 256) (many : Int) (A : Option Addr) (xs : List (BitVec 256)) (c : Nat) (u t : Int) (h : AllE [(t != (xs.length : Int), false)]) : ∀ r, Is (evT (ELr (rows1 (rowW A xs))) 60 (.code (sR sX1)) ⟨pat [(3, .ptr 0 0), (4, .ptr 1 0), (5, .ptr 2 0), (6, .ptr 3 0), (7, .ptr 4 0), (8, .func (.func 37) [.ptr 5 0, .ptr 6 0]), (9, .ptr 9 0), (10, .ptr 10 0), (24, .func (.func 37) [.ptr 5 0, .ptr 6 0])] r 0 Try.f4.ntmps, ⟨mB a b many A xs c ++ [([.int .i64 true 0], 3), ([.int .i64 false u], 3), ([.int .i64 true 1], 3), ([.int .i64 false t], 3)], [false], fun _ => true⟩⟩ (chE .normal [(3, .ptr 0 0), (4, .ptr 1 0), (5, .ptr 2 0), (6, .ptr 3 0), (7, .ptr 4 0), (8, .func (.func 37) [.ptr 5 0, .ptr 6 0]), (9, .ptr 9 0), (10, .ptr 10 0)] Try.f4.ntmps (mB a b many A xs c ++ [([.int .i64 true 0], 3), ([.int .i64 false u], 3), ([.int .i64 true 1], 3), ([.int .i64 false t], 3)]) [])) := fun r => ev_eq [(t != (xs.length : Int), false)] (chR [(3, .ptr 0 0), (4, .ptr 1 0), (5, .ptr 2 0), (6, .ptr 3 0), (7, .ptr 4 0), (8, .func (.func 37) [.ptr 5 0, .ptr 6 0]), (9, .ptr 9 0), (10, .ptr 10 0)] Try.f4.ntmps (mB a b many A xs c ++ [([.int .i64 true 0], 3), ([.int .i64 false u], 3), ([.int .i64 true 1], 3), ([.int .i64 false t], 3)]) []) (by kernel_rfl) h
theorem st_j1 (a b : BitVec 256) (many : Int) (A : Option Addr) (xs : List (BitVec 256)) (c : Nat) (u t : Int) : ∀ r, Is (evT (ELr (rows1 (rowW A xs))) 60 (.code (sR sB1)) ⟨pat [(3, .ptr 0 0), (4, .ptr 1 0), (5, .ptr 2 0), (6, .ptr 3 0), (7, .ptr 4 0), (8, .func (.func 37) [.ptr 5 0, .ptr 6 0]), (9, .ptr 9 0), (10, .ptr 10 0)] r 0 Try.f4.ntmps, ⟨mB a b many A xs c ++ [([.int .i64 true 0], 3), ([.int .i64 false u], 3), ([.int .i64 true 1], 3), ([.int .i64 false t], 3)], [], fun _ => true⟩⟩ (chE .normal [(3, .ptr 0 0), (4, .ptr 1 0), (5, .ptr 2 0), (6, .ptr 3 0), (7, .ptr 4 0), (8, .func (.func 37) [.ptr 5 0, .ptr 6 0]), (9, .ptr 11 0)] Try.f4.ntmps (mB a b many A xs c ++ [([.int .i64 true 0], 3), ([.int .i64 false u], 3), ([.int .i64 true 1], 3), ([.int .i64 false t], 3), ([.int .i64 true 2], 3)]) [])) := fun r => ev_eq [] (chR [(3, .ptr 0 0), (4, .ptr 1 0), (5, .ptr 2 0), (6, .ptr 3 0), (7, .ptr 4 0), (8, .func (.func 37) [.ptr 5 0, .ptr 6 0]), (9, .ptr 11 0)] Try.f4.ntmps (mB a b many A xs c ++ [([.int .i64 true 0], 3), ([.int .i64 false u], 3), ([.int .i64 true 1], 3), ([.int .i64 false t], 3), ([.int .i64 true 2], 3)]) []) (by kernel_rfl) trivial
theorem st_k (a b : BitVec 256) (many : Int) (A : Option Addr) (xs : List (BitVec 256)) (c : Nat) (u t : Int) : ∀ r, Is (evT (ELr (rows1 (rowW A xs))) 60 (.code sB) ⟨pat [(3, .ptr 0 0), (4, .ptr 1 0), (5, .ptr 2 0), (6, .ptr 3 0), (7, .ptr 4 0), (8, .func (.func 37) [.ptr 5 0, .ptr 6 0]), (9, .ptr 11 0)] r 0 Try.f4.ntmps, ⟨mB a b many A xs c ++ [([.int .i64 true 0], 3), ([.int .i64 false u], 3), ([.int .i64 true 1], 3), ([.int .i64 false t], 3), ([.int .i64 true 2], 3)], [], fun _ => true⟩⟩ (chE (.exit 0) [(3, .ptr 0 0), (4, .ptr 1 0), (5, .ptr 2 0), (6, .ptr 3 0), (7, .ptr 4 0), (8, .func (.func 37) [.ptr 5 0, .ptr 6 0]), (9, .ptr 11 0)] Try.f4.ntmps (mB a b many A xs c ++ [([.int .i64 true 0], 3), ([.int .i64 false u], 3), ([.int .i64 true 1], 3), ([.int .i64 false t], 3), ([.int .i64 true 2], 3)]) [])) := fun r => ev_eq [] (chR [(3, .ptr 0 0), (4, .ptr 1 0), (5, .ptr 2 0), (6, .ptr 3 0), (7, .ptr 4 0), (8, .func (.func 37) [.ptr 5 0, .ptr 6 0]), (9, .ptr 11 0)] Try.f4.ntmps (mB a b many A xs c ++ [([.int .i64 true 0], 3), ([.int .i64 false u], 3), ([.int .i64 true 1], 3), ([.int .i64 false t], 3), ([.int .i64 true 2], 3)]) []) (by kernel_rfl) trivial
theorem st_z (a b : BitVec 256) (many : Int) (A : Option Addr) (xs : List (BitVec 256)) (c : Nat) (u t : Int) : ∀ rs, Is (evT (ELr (rows1 (rowW A xs))) 60 (.code (sR s3)) ⟨pat [(3, .ptr 0 0), (4, .ptr 1 0), (5, .ptr 2 0), (6, .ptr 3 0), (7, .ptr 4 0), (8, .func (.func 37) [.ptr 5 0, .ptr 6 0]), (9, .ptr 11 0)] rs 0 Try.f4.ntmps, ⟨mB a b many A xs c ++ [([.int .i64 true 0], 3), ([.int .i64 false u], 3), ([.int .i64 true 1], 3), ([.int .i64 false t], 3), ([.int .i64 true 2], 3)], [], fun _ => true⟩⟩ (retK (ELr (rows1 (rowW A xs))) Try.f4 (.bool true true))) := fun rs => ev_eq [] (some [AV.bool true true]) (by kernel_rfl) trivial
end

section
theorem words_at (xs : List (BitVec 256)) {i q : Nat} (hi : i < xs.length) (hq : q < 4) : (wordsC xs)[i * 4 + q]? = ([.int .u64 (L (xs.getD i 0#256) 0), .int .u64 (L (xs.getD i 0#256) 1), .int .u64 (L (xs.getD i 0#256) 2), .int .u64 (L (xs.getD i 0#256) 3)] : List Value)[q]? := by
  induction xs generalizing i with
  | nil => cases hi
  | cons x xs ih =>
    have e : wordsC (x :: xs) = [.int .u64 (L x 0), .int .u64 (L x 1), .int .u64 (L x 2), .int .u64 (L x 3)] ++ wordsC xs := by unfold wordsC; rw [List.flatMap_cons]
    rw [e]
    cases i with
    | zero =>
      rw [List.getElem?_append_left (by simp; omega)]
      simp [List.getD]
    | succ i =>
      rw [List.getElem?_append_right (by simp; omega)]
      have := ih (i := i) (by simpa using hi)
      simp only [List.length_cons, List.length_nil]
      rw [show (i + 1) * 4 + q - (0 + 1 + 1 + 1 + 1) = i * 4 + q by omega, this]
      simp [List.getD]
theorem seqS (Hr : List Block) (w : World) (a b : BitVec 256) (many : Int) (A : Option Addr) (xs : List (BitVec 256)) (c : Nat) {ds : List Bool} {D : List Deferred} {live : List (Nat × AV)} {n : Nat} {wr : Nat → Bool} {ac : Act} {T : List ABlk} {R : Rws} (hP : PatSt R D live n ⟨mB a b many A xs c ++ T, ds, wr⟩ ac Hr) (hO : Own Hr w) (lb : List Value) (hlb : RelL R (nums Hr) [.ptr 5 0, .ptr 6 0] lb) : Seq Try.prog 37 lb.toArray encW (stepsL a b) (Sfz [5, 6] Hr w) w := by
  obtain ⟨rs, vs, _, _, hBl, hnd⟩ := hP
  obtain ⟨b1, n1, hb1⟩ := blk_of hBl hO (l := 5) rfl (vals_wC a)
  obtain ⟨b2, n2, hb2⟩ := blk_of hBl hO (l := 6) rfl (vals_wC b)
  cases hlb with | cons h1 h2 => cases h2 with | cons h2 h3 =>
  cases h3
  obtain ⟨c1, m1, rfl⟩ := rel_ptr h1
  obtain ⟨c2, m2, rfl⟩ := rel_ptr h2
  obtain rfl := Option.some.inj (n1.symm.trans m1)
  obtain rfl := Option.some.inj (n2.symm.trans m2)
  exact steps1_seq b1 b2 a b w (Sfz [5, 6] Hr w) hb1 hb2 (sfz_of hnd hO n1 rfl) (sfz_of hnd hO n2 rfl)
theorem row_words {w' : World} {base : Nat} {v : Value} {xs : List (BitVec 256)} {nb : List Nat} (h : w'.ownsRow base 24 4 v xs.length (wordsC xs)) (hnb : ∀ b ∈ nb, b < base) : ∃ A c, v = .slice A xs.length c ∧ RwOK (rows1 (rowW A xs)) ∧ Rd (rows1 (rowW A xs)) nb w' := by
  have hvals : ∀ A j r, rows1 (rowW A xs) j = some r → ∀ i : Nat, i < r.n → AV.vals? (r.F i) = some (r.V i) := fun A j r hj i _ => by
    obtain ⟨_, rfl⟩ := rows1_inv hj
    exact vals_wC _
  obtain ⟨hl, h | ⟨g, cap, cur, rfl, hg, hh, h1, h2, h3, h4⟩⟩ := h
  · obtain ⟨rfl, h0⟩ := h
    refine ⟨none, 0, by rw [h0], ⟨hvals _, fun j r hj hn => ?_⟩, fun j r hj b off ha hn => ?_⟩
    · obtain ⟨_, rfl⟩ := rows1_inv hj
      exact absurd hn (by show ¬ 0 < xs.length; omega)
    · obtain ⟨_, rfl⟩ := rows1_inv hj
      cases ha
  · refine ⟨some ⟨g, 0, none⟩, cap, rfl, ⟨hvals _, fun j r hj hn => ?_⟩, fun j r hj b off ha hn => ?_⟩
    · obtain ⟨_, rfl⟩ := rows1_inv hj
      exact ⟨g, 0, rfl⟩
    · obtain ⟨_, rfl⟩ := rows1_inv hj
      cases ha
      refine ⟨fun hm => by have := hnb g hm; omega, (Array.getElem?_eq_some_iff.1 hh).1, fun i hi q u hu => ?_⟩
      have hi : i < xs.length := hi
      have hq : q < 4 := by
        have := (List.getElem?_eq_some_iff.1 hu).1
        simpa [rowW] using this
      have hw : (wordsC xs)[i * 4 + q]? = some u := by
        rw [← hu]
        exact words_at xs hi hq
      have hc : cur[0 + i * 4 + q]? = some u := by
        rw [← h4, List.getElem?_take] at hw
        split at hw
        · rw [Nat.zero_add]; simpa using hw
        · cases hw
      have hB : Blk w' g cur 24 := hh
      have := hB.cell (0 + i * 4 + q)
      rw [hc] at this
      exact this
theorem wrap_k {k : Nat} (h : k ≤ 1000) : IntKind.i64.wrap ((k : Int) + 1) = ((k + 1 : Nat) : Int) := by rw [IntKind.wrap_i64]; omega
set_option maxHeartbeats 8000000 in
theorem steps_law (a b : BitVec 256) (many : Int) (w : World) : Calls Try.prog 4 #[W a, W b, .int .i64 many] w fun e w' => e = .returned (.bool true) ∧ Below w.heap.size w w' := by
  refine ev_enter (E := EL) (fn := Try.f4) (c := (Try.f4.body.getD .skip)) Try.func4 (by kernel_rfl) (args := [wA a, wA b, .int .i64 false many]) (Args := [W a, W b, .int .i64 many]) (show 3 ≤ Try.f4.ntmps by decide) (.cons (rel_wA _ a) (.cons (rel_wA _ b) (.cons .int .nil))) (rd_no _ _) (ds := []) (wr := fun _ => true) fun a0 hP hB => ?_
  refine ev_seqs hEL 60 1 (st_a a b many) hP hB fun a1 Hr1 w1 hP1 hB1 _ => ?_
  refine wp_parts (by kernel_rfl) (wp_reg (by kernel_rfl) ?_)
  refine ev_ops hEL 60 2 (st_b a b many) hP1 hB1 fun a2 Hr2 w2 hP2 hB2 _ => ?_
  refine ev_call (f := 13) (avs := [wA a, wA b]) (d := 14) (Post := fun V w' => w'.ownsRow w2.heap.size 24 4 V (stepsL a b).length (wordsC (stepsL a b))) (fun _ => by kernel_rfl) (show 14 < Try.f4.ntmps by decide) (by kernel_rfl) (enters_of Try.func13 (by kernel_rfl) rfl) hP2 hB2 ?_ ?_
  · intro Args hArgs
    cases hArgs with | cons h1 h2 => cases h2 with | cons h2 h3 =>
    cases h3
    rw [h1.told (told_wA a), h2.told (told_wA b)]
    exact (refSteps_any a b w2).mono fun e w' ⟨v, h1, h2, h3⟩ => ⟨v, h1, h3, h2⟩
  intro V a3 w3 hV hbv hP3 hB3
  obtain ⟨A, c, rfl, hRw, hRd⟩ := row_words hV (fun bl hbl => by
    obtain ⟨l, hl, rfl⟩ := List.mem_iff_getElem.1 hbl
    exact nums_lt hB2.own.1 (l := l) (by rw [List.getElem?_eq_getElem hl]))
  have hlen := pairs_bd' a b
  rw [← stepsL_len a b] at hlen
  clear hV
  have hx0 : ∀ j r, EL.rows j = some r → rows1 (rowW A (stepsL a b)) j = some r := fun j r h => by cases h
  have hP3' := (PatSt.rows (R2 := rows1 (rowW A (stepsL a b))) hx0 hP3).swap (v := .rsl 0 (rowW A (stepsL a b)).n c) (.rsl rfl)
  have hB3' := hB3.rows hRd
  have hseq := fun Hr wx {ds} {D} {live} {n} {wr} {ac} {T} (hP : PatSt (rows1 (rowW A (stepsL a b))) D live n ⟨mB a b many A (stepsL a b) c ++ T, ds, wr⟩ ac Hr) hO lb hlb => seqS Hr wx a b many A (stepsL a b) c hP hO lb hlb
  generalize hxs : stepsL a b = xs at *
  have hE := hELr hRw
  refine ev_ops hE 60 2 (st_c a b many A xs c) hP3' hB3' fun a4 Hr4 w4 hP4 hB4 _ => wpList_nil ?_
  refine ev_seqs hE 60 2 (st_d a b many A xs c) hP4 hB4 fun a5 Hr5 w5 hP5 hB5 _ => ?_
  refine wp_parts (by kernel_rfl) ?_
  refine ev_seqs hE 60 1 (st_e a b many A xs c) hP5 hB5 fun a6 Hr6 w6 hP6 hB6 _ => ?_
  refine wp_bk (by kernel_rfl) (wp_lp 3 (by kernel_rfl) ?_)
  rw [rounds_succ]
  refine ev_seqs hE 60 1 (st_f0 a b many A xs c) hP6 hB6 fun a7 Hr7 w7 hP7 hB7 _ => ?_
  refine wp_parts (by kernel_rfl) (wp_bk (by kernel_rfl) ?_)
  refine ev_seqs hE 60 1 (st_g0 a b many A xs c) hP7 hB7 fun a8 Hr8 w8 hP8 hB8 _ => ?_
  refine wp_parts (by kernel_rfl) ?_
  refine ev_seqs hE 60 1 (st_h0 a b many A xs c) hP8 hB8 fun a9 Hr9 w9 hP9 hB9 _ => ?_
  have hP9' := patSt_cells (l := 8) (cs' := [.int .i64 false 0]) (H := mB a b many A xs c ++ [([.int .i64 true 0], 3), ([.int .i64 true 0], 3)]) rfl rfl rfl hP9
  have hat : ∀ (k : Nat) x, xs[k]? = some x → k < xs.length ∧ xs.getD (k : Int).toNat 0#256 = x := fun k x hx => ⟨(List.getElem?_eq_some_iff.1 hx).1, by simp [List.getD, hx]⟩
  have hcond : ∀ (k : Nat) x, xs[k]? = some x → decide ((k : Int) ≥ (xs.length : Int)) = false ∧ decide (0 ≤ (k : Int) ∧ (k : Int) < (xs.length : Int)) = true ∧ (true != eqB x (xs.getD (k : Int).toNat 0#256)) = false := fun k x hx => by
    obtain ⟨h1, h2⟩ := hat k x hx
    exact ⟨by simp; omega, by simp; omega, neB_of h2.symm⟩
  refine ev_rangeAt hE 60 (m := ⟨mB a b many A xs c ++ [([.int .i64 true 0], 3), ([.int .i64 false 0], 3)], [], fun _ => true⟩) (live := [(3, .ptr 0 0), (4, .ptr 1 0), (5, .ptr 2 0), (6, .ptr 3 0), (7, .ptr 4 0), (8, .func (.func 37) [.ptr 5 0, .ptr 6 0]), (9, .ptr 7 0), (10, .ptr 8 0), (24, .func (.func 37) [.ptr 5 0, .ptr 6 0])]) (n := Try.f4.ntmps) (caps := [.ptr 5 0, .ptr 6 0]) (xs := xs) (encs := encW) (by kernel_rfl) (fun _ => by kernel_rfl) (enters_of Try.func37 (by kernel_rfl) rfl) (by kernel_rfl) [5, 6] (hseq Hr9 w9 hP9' hB9.own.1) (fun _ x => [wA x]) (fun k x _ => plains_wA x) (fun _ _ => rfl) (fun k => mB a b many A xs c ++ [([.int .i64 true 0], 3), ([.int .i64 false ((k : Nat) : Int)], 3)]) rfl (fun _ => rfl) (fun k => [false, false, decide (IntKind.i64.wrap ((k : Int) + 1) ≥ many)]) (fun k => decide (IntKind.i64.wrap ((k : Int) + 1) ≥ many))
    (fun k x r hx _ => ?_) hP9' hB9 fun k a10 Hr10 w10 hEn hP10 hB10 _ => ?_
  · obtain ⟨q1, q2, q3⟩ := hcond k x hx
    have hk := (hat k x hx).1
    have e := wrap_k (k := k) (by omega)
    change Is (evR _ _ _ _ _ _ (rndK _ _ _ (mB a b many A xs c ++ [([.int .i64 true 0], 3), ([.int .i64 false ((k + 1 : Nat) : Int)], 3)])))
    rw [← e]
    rcases hz : decide (IntKind.i64.wrap ((k : Int) + 1) ≥ many) with _ | _
    · exact st_r0f a b many A xs c (k : Int) x (allE_cons q1 (allE_cons q2 (allE_cons q3 (allE_cons hz allE_nil)))) r
    · exact st_r0t a b many A xs c (k : Int) x (allE_cons q1 (allE_cons q2 (allE_cons q3 (allE_cons hz allE_nil)))) r
  have hkm : (((k : Nat) : Int) != (if (if many > 1 then many else 1) < (xs.length : Int) then (if many > 1 then many else 1) else (xs.length : Int))) = false := by
    have hb : ∀ j, j < xs.length → (decide (IntKind.i64.wrap ((j : Int) + 1) ≥ many) = true ↔ many ≤ (j : Int) + 1) := fun j hj => by
      rw [wrap_k (by omega)]; simp
    rw [bne_eq_false_iff_eq]
    rcases hEn with ⟨h1, h2⟩ | ⟨h1, h2, h3, h4⟩
    · subst h1
      rcases Nat.eq_zero_or_pos xs.length with h0 | h0
      · repeat' split <;> omega
      · have h5 := h2 (xs.length - 1) (by omega)
        have h6 := (not_congr (hb (xs.length - 1) (by omega))).1 (by have h5 : decide (IntKind.i64.wrap (((xs.length - 1 : Nat) : Int) + 1) ≥ many) = false := h5; rw [h5]; simp)
        repeat' split <;> omega
    · have h5 := (hb (k - 1) (by omega)).1 h3
      by_cases hk1 : k = 1
      · repeat' split <;> omega
      · have h6 := h4 (k - 2) (by omega)
        have h7 := (not_congr (hb (k - 2) (by omega))).1 (by have h6 : decide (IntKind.i64.wrap (((k - 2 : Nat) : Int) + 1) ≥ many) = false := h6; rw [h6]; simp)
        repeat' split <;> omega
  refine ev_codeE hE 60 .normal (st_i0 a b many A xs c (k : Int) (allE_cons hkm allE_nil)) hP10 hB10 fun a11 Hr11 w11 hP11 hB11 _ => ?_
  refine ev_codeE hE 60 .normal (st_j0 a b many A xs c (k : Int)) hP11 hB11 fun a12 Hr12 w12 hP12 hB12 _ => ?_
  refine ev_seqs hE 60 1 (st_f1 a b many A xs c (k : Int)) hP12 hB12 fun a13 Hr13 w13 hP13 hB13 _ => ?_
  refine wp_parts (by kernel_rfl) (wp_bk (by kernel_rfl) ?_)
  refine ev_seqs hE 60 1 (st_g1 a b many A xs c (k : Int)) hP13 hB13 fun a14 Hr14 w14 hP14 hB14 _ => ?_
  refine wp_parts (by kernel_rfl) ?_
  refine ev_seqs hE 60 1 (st_h1 a b many A xs c (k : Int)) hP14 hB14 fun a15 Hr15 w15 hP15 hB15 _ => ?_
  have hP15' := patSt_cells (l := 10) (cs' := [.int .i64 false 0]) (H := mB a b many A xs c ++ [([.int .i64 true 0], 3), ([.int .i64 false (k : Int)], 3), ([.int .i64 true 1], 3), ([.int .i64 true 0], 3)]) rfl rfl rfl hP15
  refine ev_rangeAt hE 60 (m := ⟨mB a b many A xs c ++ [([.int .i64 true 0], 3), ([.int .i64 false (k : Int)], 3), ([.int .i64 true 1], 3), ([.int .i64 false 0], 3)], [], fun _ => true⟩) (live := [(3, .ptr 0 0), (4, .ptr 1 0), (5, .ptr 2 0), (6, .ptr 3 0), (7, .ptr 4 0), (8, .func (.func 37) [.ptr 5 0, .ptr 6 0]), (9, .ptr 9 0), (10, .ptr 10 0), (24, .func (.func 37) [.ptr 5 0, .ptr 6 0])]) (n := Try.f4.ntmps) (caps := [.ptr 5 0, .ptr 6 0]) (xs := xs) (encs := encW) (by kernel_rfl) (fun _ => by kernel_rfl) (enters_of Try.func37 (by kernel_rfl) rfl) (by kernel_rfl) [5, 6] (hseq Hr15 w15 hP15' hB15.own.1) (fun _ x => [wA x]) (fun k x _ => plains_wA x) (fun _ _ => rfl) (fun j => mB a b many A xs c ++ [([.int .i64 true 0], 3), ([.int .i64 false (k : Int)], 3), ([.int .i64 true 1], 3), ([.int .i64 false ((j : Nat) : Int)], 3)]) rfl (fun _ => rfl) (fun k => [false, false]) (fun k => false)
    (fun j x r hx _ => ?_) hP15' hB15 fun j a16 Hr16 w16 hEn2 hP16 hB16 _ => ?_
  · obtain ⟨q1, q2, q3⟩ := hcond j x hx
    have hk := (hat j x hx).1
    have e := wrap_k (k := j) (by omega)
    change Is (evR _ _ _ _ _ _ (rndK _ _ _ (mB a b many A xs c ++ [([.int .i64 true 0], 3), ([.int .i64 false (k : Int)], 3), ([.int .i64 true 1], 3), ([.int .i64 false ((j + 1 : Nat) : Int)], 3)])))
    rw [← e]
    exact st_r1 a b many A xs c (j : Int) (k : Int) x (allE_cons q1 (allE_cons q2 (allE_cons q3 allE_nil))) r
  have hj : (((j : Nat) : Int) != (xs.length : Int)) = false := by
    rw [bne_eq_false_iff_eq]
    rcases hEn2 with ⟨h1, _⟩ | ⟨_, _, h3, _⟩
    · rw [h1]
    · cases h3
  refine ev_codeE hE 60 .normal (st_i1 a b many A xs c (k : Int) (j : Int) (allE_cons hj allE_nil)) hP16 hB16 fun a17 Hr17 w17 hP17 hB17 _ => ?_
  refine ev_codeE hE 60 .normal (st_j1 a b many A xs c (k : Int) (j : Int)) hP17 hB17 fun a18 Hr18 w18 hP18 hB18 _ => ?_
  refine ev_codeE hE 60 (.exit 0) (st_k a b many A xs c (k : Int) (j : Int)) hP18 hB18 fun a19 Hr19 w19 hP19 hB19 _ => ?_
  exact ev_rest hE 60 (st_z a b many A xs c (k : Int) (j : Int)) rfl (fun i r h h0 => by obtain ⟨_, rfl⟩ := rows1_inv h; show 0 < 4; decide) hP19 hB19
end
end Go.Proofs.Ytjmaigienigpnaa
