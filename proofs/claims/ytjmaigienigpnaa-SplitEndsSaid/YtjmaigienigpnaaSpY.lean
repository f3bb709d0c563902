/- The law SplitEnds on words. No condition. -/
import Derived.Test.YtjmaigienigpnaaSpX
set_option linter.unusedVariables false
set_option linter.unusedSimpArgs false
set_option maxRecDepth 100000
namespace Go.Proofs.Ytjmaigienigpnaa
open Go.RowKit

def hE0 (a b : BitVec 256) : List ABlk := [(wC a, 24), (wC b, 24), ([.int .u64 true 0, .int .u64 true 0, .int .u64 true 0, .int .u64 true 0], 24), (wC a, 24), (wC b, 24)]
def hE (a b y : BitVec 256) : List ABlk := [(wC a, 24), (wC b, 24), (wC y, 24), (wC a, 24), (wC b, 24)]
def lastS (xs : List (BitVec 256)) : Nat → BitVec 256
  | 0 => 0#256
  | k + 1 => xs.getD k 0#256
noncomputable def e4 : Code := dropSeq 4 (Try.f6.body.getD .skip)
noncomputable def eRg : Code := dropSeq 1 (sL e4)
theorem ends_pre (a b : BitVec 256) : ∀ r, Is (evCs EL 60 (takeSeq 4 (Try.f6.body.getD .skip)) ⟨pat (inLive 0 [wA a, wA b]) r 0 Try.f6.ntmps, ⟨[], [], fun _ => true⟩⟩ (chK [(2, .ptr 0 0), (3, .ptr 1 0), (5, .ptr 2 0), (6, .func (.func 37) [.ptr 3 0, .ptr 4 0])] Try.f6.ntmps (hE0 a b) [])) := fun r => ev_eq [] (chR [(2, .ptr 0 0), (3, .ptr 1 0), (5, .ptr 2 0), (6, .func (.func 37) [.ptr 3 0, .ptr 4 0])] Try.f6.ntmps (hE0 a b) []) (by kernel_rfl) trivial
theorem ends_5 (a b : BitVec 256) : ∀ r, Is (evCs EL 60 (takeSeq 1 (sL e4)) ⟨pat [(2, .ptr 0 0), (3, .ptr 1 0), (5, .ptr 2 0), (6, .func (.func 37) [.ptr 3 0, .ptr 4 0])] r 0 Try.f6.ntmps, ⟨hE0 a b, [], fun _ => true⟩⟩ (chK [(2, .ptr 0 0), (3, .ptr 1 0), (5, .ptr 2 0), (13, .func (.func 37) [.ptr 3 0, .ptr 4 0])] Try.f6.ntmps (hE0 a b) [])) := fun r => ev_eq [] (chR [(2, .ptr 0 0), (3, .ptr 1 0), (5, .ptr 2 0), (13, .func (.func 37) [.ptr 3 0, .ptr 4 0])] Try.f6.ntmps (hE0 a b) []) (by kernel_rfl) trivial
theorem ends_round (a b x y : BitVec 256) (r : Nat → Value) : Is (evR EL 60 5 (rgA eRg) (rgB eRg) ⟨setps (pat [(2, .ptr 0 0), (3, .ptr 1 0), (5, .ptr 2 0), (13, .func (.func 37) [.ptr 3 0, .ptr 4 0])] r 0 Try.f6.ntmps) (rgP eRg).toList [wA x], ⟨hE a b y, [], fun l => (fun _ => true) l && !memN l [3, 4]⟩⟩ (rndK false (rgI eRg) 5 (hE a b x))) := ev_eq [] (rndR false (hE a b x)) (by kernel_rfl) trivial
theorem ends_rest_z (a b y : BitVec 256) (h : AllE [(false != ((false != eqZ4 a) == (false != eqZ4 y)), true), (false != eqZ4 (modW (re a) (re y)), true), (false != eqZ4 a, true)]) : ∀ rs, Is (evT EL 60 (.code (sR e4)) ⟨pat [(2, .ptr 0 0), (3, .ptr 1 0), (5, .ptr 2 0), (13, .func (.func 37) [.ptr 3 0, .ptr 4 0])] rs 0 Try.f6.ntmps, ⟨hE a b y, [true, true, true], fun _ => true⟩⟩ (retK EL Try.f6 (.bool true true))) := fun rs =>
  ev_eq [(false != ((false != eqZ4 a) == (false != eqZ4 y)), true), (false != eqZ4 (modW (re a) (re y)), true), (false != eqZ4 a, true)] (some [AV.bool true true]) (by kernel_rfl) h
theorem ends_rest_n (a b y : BitVec 256) (h : AllE [(false != ((false != eqZ4 a) == (false != eqZ4 y)), true), (false != eqZ4 (modW (re a) (re y)), true), (false != eqZ4 a, false), (false != eqZ4 (modW (re b) (re y)), true)]) : ∀ rs, Is (evT EL 60 (.code (sR e4)) ⟨pat [(2, .ptr 0 0), (3, .ptr 1 0), (5, .ptr 2 0), (13, .func (.func 37) [.ptr 3 0, .ptr 4 0])] rs 0 Try.f6.ntmps, ⟨hE a b y, [true, true, false, true], fun _ => true⟩⟩ (retK EL Try.f6 (.bool true true))) := fun rs =>
  ev_eq [(false != ((false != eqZ4 a) == (false != eqZ4 y)), true), (false != eqZ4 (modW (re a) (re y)), true), (false != eqZ4 a, false), (false != eqZ4 (modW (re b) (re y)), true)] (some [AV.bool true true]) (by kernel_rfl) h
theorem plains_wA (x : BitVec 256) : AV.plains? [wA x] = some (encW 0 x).toList := by unfold encW; rw [W_limbs]; rfl
theorem zero_vals : AV.vals? [.int .u64 true 0, .int .u64 true 0, .int .u64 true 0, .int .u64 true 0] = some [.int .u64 (L 0#256 0), .int .u64 (L 0#256 1), .int .u64 (L 0#256 2), .int .u64 (L 0#256 3)] := by rw [L_zero, L_zero, L_zero, L_zero]; rfl
theorem last_z (b : BitVec 256) : lastS (stepsL 0#256 b) (stepsL 0#256 b).length = 0#256 := by unfold stepsL; rw [pairsL_nil]; rfl
theorem last_n (a b : BitVec 256) (h : ¬ a = 0#256) : ¬ lastS (stepsL a b) (stepsL a b).length = 0#256 ∧ modW a (lastS (stepsL a b) (stepsL a b).length) = 0#256 ∧ modW b (lastS (stepsL a b) (stepsL a b).length) = 0#256 := by
  obtain ⟨x, y, h1, h2, h3, h4⟩ := last_goes b.toNat a b (Nat.le_refl _) h
  have e : lastS (stepsL a b) (stepsL a b).length = x := by
    have hl : (stepsL a b).getLast? = some x := by unfold stepsL; rw [List.getLast?_map, h1]; rfl
    rw [List.getLast?_eq_getElem?] at hl
    rcases hn : (stepsL a b).length with _ | n
    · rw [List.length_eq_zero_iff.1 hn] at hl; cases hl
    · rw [hn] at hl
      simp only [Nat.add_sub_cancel] at hl
      simp [lastS, List.getD, hl]
  rw [e]
  refine ⟨h2, ?_, ?_⟩ <;> (unfold modW; rw [if_neg h2]; apply BitVec.eq_of_toNat_eq; rw [BitVec.toNat_umod]; first | exact h3 | exact h4)
set_option maxHeartbeats 4000000 in
theorem ends_any (a b : BitVec 256) (w : World) : Calls Try.prog 6 #[W a, W b] w fun e w' => e = .returned (.bool true) ∧ Below w.heap.size w w' := by
  refine ev_enter (E := EL) (fn := Try.f6) (c := (Try.f6.body.getD .skip)) Try.func6 (by kernel_rfl) (args := [wA a, wA b]) (Args := [W a, W b]) (show 2 ≤ Try.f6.ntmps by decide) (.cons (rel_wA _ a) (.cons (rel_wA _ b) .nil)) (rd_no _ _) (ds := []) (wr := fun _ => true) fun a0 hP hB => ?_
  refine ev_seqs hEL 60 4 (ends_pre a b) hP hB fun a1 Hr1 w1 hP1 hB1 _ => ?_
  refine wp_parts (by kernel_rfl) ?_
  refine ev_seqs hEL 60 1 (ends_5 a b) hP1 hB1 fun a2 Hr2 w2 hP2 hB2 _ => ?_
  have hP2' : PatSt EL.rows _ [(2, .ptr 0 0), (3, .ptr 1 0), (5, .ptr 2 0), (13, .func (.func 37) [.ptr 3 0, .ptr 4 0])] Try.f6.ntmps ⟨hE a b 0#256, [], fun _ => true⟩ a2 Hr2 := patSt_cells (l := 2) (H := hE0 a b) (cs' := wC 0#256) rfl zero_vals (vals_wC _) hP2
  have hlast : ∀ k x, (stepsL a b)[k]? = some x → lastS (stepsL a b) (k + 1) = x := fun k x hx => by simp [lastS, List.getD, hx]
  refine ev_rangeAt hEL 60 (m := ⟨hE a b 0#256, [], fun _ => true⟩) (live := [(2, .ptr 0 0), (3, .ptr 1 0), (5, .ptr 2 0), (13, .func (.func 37) [.ptr 3 0, .ptr 4 0])]) (n := Try.f6.ntmps) (caps := [.ptr 3 0, .ptr 4 0]) (xs := stepsL a b) (encs := encW) (by kernel_rfl) (fun _ => by kernel_rfl) (enters_of Try.func37 (by kernel_rfl) rfl) (by kernel_rfl) [3, 4] ?_ (fun _ x => [wA x]) (fun k x _ => plains_wA x) (fun _ _ => rfl) (fun k => hE a b (lastS (stepsL a b) k)) rfl (fun _ => rfl) (fun _ => []) (fun _ => false)
    (fun k x r hx _ => ?_) hP2' hB2 fun k a3 Hr3 w3 hEn hP3 hB3 _ => ?_
  · intro lb hlb
    obtain ⟨rs, vs, _, _, hBl, hnd⟩ := hP2'
    obtain ⟨b1, n1, hb1⟩ := blk_of hBl hB2.own.1 (l := 3) rfl (vals_wC a)
    obtain ⟨b2, n2, hb2⟩ := blk_of hBl hB2.own.1 (l := 4) rfl (vals_wC b)
    cases hlb with | cons h1 h2 => cases h2 with | cons h2 h3 =>
    cases h3
    obtain ⟨c1, m1, rfl⟩ := rel_ptr h1
    obtain ⟨c2, m2, rfl⟩ := rel_ptr h2
    obtain rfl := Option.some.inj (n1.symm.trans m1)
    obtain rfl := Option.some.inj (n2.symm.trans m2)
    exact steps1_seq b1 b2 a b w2 (Sfz [3, 4] Hr2 w2) hb1 hb2 (sfz_of hnd hB2.own.1 n1 rfl) (sfz_of hnd hB2.own.1 n2 rfl)
  · have e := hlast k x hx
    change Is (evR _ _ _ _ _ _ (rndK _ _ _ (hE a b (lastS (stepsL a b) (k + 1)))))
    rw [e]
    exact ends_round a b x (lastS (stepsL a b) k) r
  · obtain rfl : k = (stepsL a b).length := by
      rcases hEn with ⟨h, _⟩ | ⟨_, _, h, _⟩
      · exact h
      · cases h
    by_cases h0 : a = 0#256
    · have hy : lastS (stepsL a b) (stepsL a b).length = 0#256 := by rw [h0]; exact last_z b
      generalize lastS (stepsL a b) (stepsL a b).length = y at *
      subst hy; subst h0
      exact ev_rest hEL 60 (ends_rest_z 0#256 b 0#256 (allE_cons (by decide) (allE_cons (by decide) (allE_cons (by decide) allE_nil)))) rfl (fun j r h => by cases h) hP3 hB3
    · obtain ⟨g1, g2, g3⟩ := last_n a b h0
      generalize lastS (stepsL a b) (stepsL a b).length = y at *
      refine ev_rest hEL 60 (ends_rest_n a b y (allE_cons ?_ (allE_cons ?_ (allE_cons ?_ (allE_cons ?_ allE_nil))))) rfl (fun j r h => by cases h) hP3 hB3
      · rw [eqZ4_eq, eqZ4_eq]; simp [h0, g1]
      · rw [eqZ4_eq, re_eq, re_eq]; simpa using g2
      · rw [eqZ4_eq]; simpa using h0
      · rw [eqZ4_eq, re_eq, re_eq]; simpa using g3
end Go.Proofs.Ytjmaigienigpnaa
