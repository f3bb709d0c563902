/- The chapter's rows hold (works). No condition. -/
import Derived.Test.YtjmaigienigpnaaSpW
set_option linter.unusedVariables false
set_option linter.unusedSimpArgs false
set_option maxRecDepth 100000
namespace Go.Proofs.Ytjmaigienigpnaa
open Go.RowKit

def msK (k : Nat) : ByteArray := ⟨([109, 115, 109, 103].take k).toArray⟩
def Z0 : BitVec 256 := mkW (BitVec.ofInt 64 0) (BitVec.ofInt 64 0) (BitVec.ofInt 64 0) (BitVec.ofInt 64 0)
def T255 : BitVec 256 := mkW (BitVec.ofInt 64 0) (BitVec.ofInt 64 0) (BitVec.ofInt 64 0) (BitVec.ofInt 64 9223372036854775808)
def hW (k : Nat) : List ABlk := [([.int .u64 true 0, .int .u64 true 0, .int .u64 true 0, .int .u64 true 0] ++ wC 1#256 ++ wC 2#256 ++ wC 4#256 ++ wC 7#256, 47), ([.raw (.string (msK k))], 9), (wC 12#256, 24), (wC 18#256, 24)]
theorem works_pre : ∀ r, Is (evCs ES 60 (takeSeq 5 (Try.f12.body.getD .skip)) ⟨pat (inLive 0 []) r 0 Try.f12.ntmps, ⟨[], [], fun _ => true⟩⟩ (chK [(1, .ptr 0 0), (2, .ptr 1 0), (3, .func (.func 37) [.ptr 2 0, .ptr 3 0])] Try.f12.ntmps (hW 0) [])) := fun r => ev_eq [] (chR [(1, .ptr 0 0), (2, .ptr 1 0), (3, .func (.func 37) [.ptr 2 0, .ptr 3 0])] Try.f12.ntmps (hW 0) []) (by kernel_rfl) trivial
def wXA (k : Nat) (x : BitVec 256) : List AV := [.agg [.int .u64 true (L x 0), .int .u64 true (L x 1), .int .u64 true (L x 2), .int .u64 true (L x 3)]]
noncomputable def c5 : Code := dropSeq 5 (Try.f12.body.getD .skip)
noncomputable def cRg : Code := dropSeq 1 (sL c5)
theorem works_r6 : ∀ r, Is (evCs ES 60 (takeSeq 1 (sL c5)) ⟨pat [(1, .ptr 0 0), (2, .ptr 1 0), (3, .func (.func 37) [.ptr 2 0, .ptr 3 0])] r 0 Try.f12.ntmps, ⟨hW 0, [], fun _ => true⟩⟩ (chK [(1, .ptr 0 0), (2, .ptr 1 0), (16, .func (.func 37) [.ptr 2 0, .ptr 3 0])] Try.f12.ntmps (hW 0) [])) := fun r => ev_eq [] (chR [(1, .ptr 0 0), (2, .ptr 1 0), (16, .func (.func 37) [.ptr 2 0, .ptr 3 0])] Try.f12.ntmps (hW 0) []) (by kernel_rfl) trivial
theorem works_round (k : Nat) (x : BitVec 256) (r : Nat → Value) (hx : [12#256, 18#256, 12#256, 6#256][k]? = some x) :
    Is (evR ES 60 4 (rgA cRg) (rgB cRg) ⟨setps (pat [(1, .ptr 0 0), (2, .ptr 1 0), (16, .func (.func 37) [.ptr 2 0, .ptr 3 0])] r 0 Try.f12.ntmps) (rgP cRg).toList (wXA k x), ⟨hW k, [], fun l => (fun _ => true) l && !memN l [2, 3]⟩⟩ (rndK false (rgI cRg) 4 (hW (k + 1)))) := by
  have hk : k < 4 := (List.getElem?_eq_some_iff.1 hx).1
  rcases (by omega : k = 0 ∨ k = 1 ∨ k = 2 ∨ k = 3) with rfl | rfl | rfl | rfl <;> (simp at hx; subst hx)
  · exact ev_eq [] (rndR false (hW 1)) (by kernel_rfl) trivial
  · exact ev_eq [] (rndR false (hW 2)) (by kernel_rfl) trivial
  · exact ev_eq [] (rndR false (hW 3)) (by kernel_rfl) trivial
  · exact ev_eq [] (rndR false (hW 4)) (by kernel_rfl) trivial
def wConds : List (Bool × Bool) := [(eqB (divW (re 7#256) (re 2#256)) 3#256, true), (eqZ4 (modW (re 7#256) Z0), true), (eqB (sdivW (re (0#256 - 7#256)) (re 2#256)) (0#256 - 3#256), true), (eqB (smodW (re (0#256 - 7#256)) (re 2#256)) (0#256 - 1#256), true), (eqB (addMW (re (0#256 - 1#256)) (re 2#256) (re 2#256)) 1#256, true), (eqB (mulMW T255 (re 4#256) (re 7#256)) 4#256, true)]
theorem wConds_ok : AllE wConds := allE_cons (by kernel_rfl) (allE_cons (by kernel_rfl) (allE_cons (by kernel_rfl) (allE_cons (by kernel_rfl) (allE_cons (by kernel_rfl) (allE_cons (by kernel_rfl) (allE_nil))))))
theorem works_rest : ∀ rs, Is (evT ES 60 (.code (sR c5)) ⟨pat [(1, .ptr 0 0), (2, .ptr 1 0), (16, .func (.func 37) [.ptr 2 0, .ptr 3 0])] rs 0 Try.f12.ntmps, ⟨hW 4, [true, true, true, true, true, true], fun _ => true⟩⟩ (retK ES Try.f12 (.bool true true))) := fun rs =>
  ev_eq wConds (some [AV.bool true true]) (by kernel_rfl) wConds_ok
set_option maxHeartbeats 4000000 in
theorem works_any (w : World) : Calls Try.prog 12 #[] w fun e w' => e = .returned (.bool true) ∧ Below w.heap.size w w' := by
  refine ev_enter (E := ES) (fn := Try.f12) (c := (Try.f12.body.getD .skip)) Try.func12 (by kernel_rfl) (args := []) (Args := []) (Nat.zero_le _) .nil (rd_no _ _) (ds := []) (wr := fun _ => true) fun a hP hB => ?_
  refine ev_seqs hES 60 5 works_pre hP hB fun a1 Hr1 w1 hP1 hB1 _ => ?_
  refine wp_parts (by kernel_rfl) ?_
  refine ev_seqs hES 60 1 works_r6 hP1 hB1 fun a2 Hr2 w2 hP2 hB2 _ => ?_
  refine ev_rangeAt hES 60 (m := ⟨hW 0, [], fun _ => true⟩) (live := [(1, .ptr 0 0), (2, .ptr 1 0), (16, .func (.func 37) [.ptr 2 0, .ptr 3 0])]) (n := Try.f12.ntmps) (caps := [.ptr 2 0, .ptr 3 0]) (xs := [12#256, 18#256, 12#256, 6#256]) (encs := encW) (by kernel_rfl) (fun _ => by kernel_rfl) (enters_of Try.func37 (by kernel_rfl) rfl) (by kernel_rfl) [2, 3] ?_ wXA (fun _ _ _ => rfl) (fun _ _ => rfl) hW rfl (fun _ => rfl) (fun _ => []) (fun _ => false) (fun k x r hx _ => works_round k x r hx) hP2 hB2 fun k a3 Hr3 w3 hE hP3 hB3 _ => ?_
  · intro lb hlb
    obtain ⟨rs, vs, _, _, hBl, hnd⟩ := hP2
    obtain ⟨b1, n1, hb1⟩ := blk_of hBl hB2.own.1 (l := 2) rfl (vals_wC 12#256)
    obtain ⟨b2, n2, hb2⟩ := blk_of hBl hB2.own.1 (l := 3) rfl (vals_wC 18#256)
    cases hlb with | cons h1 h2 => cases h2 with | cons h2 h3 =>
    cases h3
    obtain ⟨c1, m1, rfl⟩ := rel_ptr h1
    obtain ⟨c2, m2, rfl⟩ := rel_ptr h2
    obtain rfl := Option.some.inj (n1.symm.trans m1)
    obtain rfl := Option.some.inj (n2.symm.trans m2)
    have h := steps1_seq b1 b2 12#256 18#256 w2 (Sfz [2, 3] Hr2 w2) hb1 hb2 (sfz_of hnd hB2.own.1 n1 rfl) (sfz_of hnd hB2.own.1 n2 rfl)
    rw [steps_12_18] at h
    exact h
  · obtain rfl : k = 4 := by
      rcases hE with ⟨h, _⟩ | ⟨_, _, h, _⟩
      · exact h
      · cases h
    exact ev_rest hES 60 works_rest rfl (fun j r h => by cases h) hP3 hB3
end Go.Proofs.Ytjmaigienigpnaa
