/- Sixteen numbers; numbers that are turned. No condition. -/
import Derived.Test.YtjlijocnmicdpaaEyU
import Derived.Laws.Small
set_option linter.unusedVariables false
set_option linter.unusedSimpArgs false
set_option maxRecDepth 100000
namespace Go.Proofs.Ytjlijocnmicdpaa
open Go.RowKit

/-- Sixteen numbers as cells. -/
def cB (v : Nat → BitVec 64) : List AV := [.bv .u64 (v 0), .bv .u64 (v 1), .bv .u64 (v 2), .bv .u64 (v 3), .bv .u64 (v 4), .bv .u64 (v 5), .bv .u64 (v 6), .bv .u64 (v 7), .bv .u64 (v 8), .bv .u64 (v 9), .bv .u64 (v 10), .bv .u64 (v 11), .bv .u64 (v 12), .bv .u64 (v 13), .bv .u64 (v 14), .bv .u64 (v 15)]
def vOf (cs : List AV) : Nat → BitVec 64 := fun i => (asB64 (cs.getD i .junk)).getD 0#64
abbrev reV (v : Nat → BitVec 64) : Nat → BitVec 64 := vOf (cB v)
def upB (v : Nat → BitVec 64) (a : Nat) (e : BitVec 64) : Nat → BitVec 64 := fun i => bif Nat.beq i a then e else v i
/-- A number turned down. -/
def trn (x : BitVec 64) (n : Nat) : BitVec 64 := (x >>> n) ||| (x <<< (64 - n))
def mixB (v : Nat → BitVec 64) (a b c d : Nat) (x y : BitVec 64) : Nat → BitVec 64 :=
  let v1 := upB v a (v a + v b + x)
  let v2 := upB v1 d (trn (v1 d ^^^ v1 a) 32)
  let v3 := upB v2 c (v2 c + v2 d)
  let v4 := upB v3 b (trn (v3 b ^^^ v3 c) 24)
  let v5 := upB v4 a (v4 a + v4 b + y)
  let v6 := upB v5 d (trn (v5 d ^^^ v5 a) 16)
  let v7 := upB v6 c (v6 c + v6 d)
  upB v7 b (trn (v7 b ^^^ v7 c) 63)
theorem cB_all {cs : List AV} (hl : cs.length = 16) (h : (cs.all fun c => (asB64 c).isSome) = true) : AV.vals? cs = AV.vals? (cB (vOf cs)) := by
  have key : ∀ {v : AV}, (asB64 v).isSome = true → v.val? = (AV.bv .u64 ((asB64 v).getD 0#64)).val? := fun {v} hv => by
    obtain ⟨a, ha⟩ := Option.isSome_iff_exists.1 hv
    obtain ⟨V0, h0⟩ : ∃ V0, v.val? = some V0 := by
      unfold asB64 AV.asBv at ha
      split at ha
      · split at ha
        · rename_i e; subst e; exact ⟨_, by simp [AV.val?, IntKind.signed]; rfl⟩
        · cases ha
      · exact ⟨_, rfl⟩
      · cases ha
    rw [ha, h0, asBv_sound (R := noRows) (ρ := []) ha (Rel.of_val h0) rfl]
    rfl
  match cs, hl with
  | [c0, c1, c2, c3, c4, c5, c6, c7, c8, c9, c10, c11, c12, c13, c14, c15], _ =>
    simp only [List.all_cons, List.all_nil, Bool.and_true, Bool.and_eq_true] at h
    obtain ⟨h0, h1, h2, h3, h4, h5, h6, h7, h8, h9, h10, h11, h12, h13, h14, h15⟩ := h
    unfold cB
    simp only [AV.vals?, key h0, key h1, key h2, key h3, key h4, key h5, key h6, key h7, key h8, key h9, key h10, key h11, key h12, key h13, key h14, key h15]
    rfl
/-- Sixteen numbers that are known. -/
def six (cs : List AV) : Bool := Nat.beq cs.length 16 && cs.all fun c => (asB64 c).isSome
/-- RotateLeft64 by so many down; the document's turned. -/
def ctrRot : CtrF
  | [x, .int .i64 true k], _ => match asB64 x with
    | some x => bif decide (k = -32 ∨ k = -24 ∨ k = -16 ∨ k = -63) then some (.bv .u64 (trn x (-k).toNat), []) else none
    | none => none
  | _, _ => none
def ctrTurned : CtrF
  | [x, .int .i64 true k], _ => match asB64 x with
    | some x => bif decide (k = 32 ∨ k = 24 ∨ k = 16 ∨ k = 63) then some (.bv .u64 (trn x k.toNat), []) else none
    | none => none
  | _, _ => none
theorem rot_32 (x : BitVec 64) : Is (evCall (mkEnv noRows []) 60 61 [.bv .u64 x, .int .i64 true (-32)] ⟨[], [], allW⟩ (fun v _ => v = .bv .u64 ((x <<< 32) ||| (x >>> 32)))) := ev_eq [] (.bv .u64 ((x <<< 32) ||| (x >>> 32)) : AV) (by kernel_rfl) trivial
theorem tur_32 (x : BitVec 64) : Is (evCall (mkEnv noRows []) 60 47 [.bv .u64 x, .int .i64 true 32] ⟨[], [], allW⟩ (fun v _ => v = .bv .u64 (trn x 32))) := ev_eq [] (.bv .u64 (trn x 32) : AV) (by kernel_rfl) trivial
theorem rot_24 (x : BitVec 64) : Is (evCall (mkEnv noRows []) 60 61 [.bv .u64 x, .int .i64 true (-24)] ⟨[], [], allW⟩ (fun v _ => v = .bv .u64 ((x <<< 40) ||| (x >>> 24)))) := ev_eq [] (.bv .u64 ((x <<< 40) ||| (x >>> 24)) : AV) (by kernel_rfl) trivial
theorem tur_24 (x : BitVec 64) : Is (evCall (mkEnv noRows []) 60 47 [.bv .u64 x, .int .i64 true 24] ⟨[], [], allW⟩ (fun v _ => v = .bv .u64 (trn x 24))) := ev_eq [] (.bv .u64 (trn x 24) : AV) (by kernel_rfl) trivial
theorem rot_16 (x : BitVec 64) : Is (evCall (mkEnv noRows []) 60 61 [.bv .u64 x, .int .i64 true (-16)] ⟨[], [], allW⟩ (fun v _ => v = .bv .u64 ((x <<< 48) ||| (x >>> 16)))) := ev_eq [] (.bv .u64 ((x <<< 48) ||| (x >>> 16)) : AV) (by kernel_rfl) trivial
theorem tur_16 (x : BitVec 64) : Is (evCall (mkEnv noRows []) 60 47 [.bv .u64 x, .int .i64 true 16] ⟨[], [], allW⟩ (fun v _ => v = .bv .u64 (trn x 16))) := ev_eq [] (.bv .u64 (trn x 16) : AV) (by kernel_rfl) trivial
theorem rot_63 (x : BitVec 64) : Is (evCall (mkEnv noRows []) 60 61 [.bv .u64 x, .int .i64 true (-63)] ⟨[], [], allW⟩ (fun v _ => v = .bv .u64 ((x <<< 1) ||| (x >>> 63)))) := ev_eq [] (.bv .u64 ((x <<< 1) ||| (x >>> 63)) : AV) (by kernel_rfl) trivial
theorem tur_63 (x : BitVec 64) : Is (evCall (mkEnv noRows []) 60 47 [.bv .u64 x, .int .i64 true 63] ⟨[], [], allW⟩ (fun v _ => v = .bv .u64 (trn x 63))) := ev_eq [] (.bv .u64 (trn x 63) : AV) (by kernel_rfl) trivial
theorem ctrRot_ok {R : Rws} : Good Try.prog R 61 ctrRot := by
  refine ⟨enters_of Try.func61 (by kernel_rfl) rfl, fun args H v cs hv hcs => ?_⟩
  unfold ctrRot at hv
  split at hv
  · rename_i H' x k
    split at hv
    · rename_i y hy
      cases hd : decide (k = -32 ∨ k = -24 ∨ k = -16 ∨ k = -63) <;> simp only [hd, cond_true, cond_false] at hv
      · cases hv
      · cases hv
        have hk := of_decide_eq_true hd
        refine ⟨_, rfl, fun Hr Args ha _ _ w _ => ?_⟩
        cases ha with | cons a1 ha => cases ha with | cons a2 ha =>
        cases ha
        rw [asBv_sound hy a1 rfl]
        cases a2
        rcases hk with rfl | rfl | rfl | rfl
        · have h := ev_callsI E0_ok 60 (rot_32 y) rfl (Args := [.int .u64 (y.toNat : Int), .int .i64 (-32)]) (.cons (.bv rfl) (.cons .int .nil)) rfl w
          rw [show (y <<< 32) ||| (y >>> 32) = trn y 32 from BitVec.or_comm _ _] at h
          exact h
        · have h := ev_callsI E0_ok 60 (rot_24 y) rfl (Args := [.int .u64 (y.toNat : Int), .int .i64 (-24)]) (.cons (.bv rfl) (.cons .int .nil)) rfl w
          rw [show (y <<< 40) ||| (y >>> 24) = trn y 24 from BitVec.or_comm _ _] at h
          exact h
        · have h := ev_callsI E0_ok 60 (rot_16 y) rfl (Args := [.int .u64 (y.toNat : Int), .int .i64 (-16)]) (.cons (.bv rfl) (.cons .int .nil)) rfl w
          rw [show (y <<< 48) ||| (y >>> 16) = trn y 16 from BitVec.or_comm _ _] at h
          exact h
        · have h := ev_callsI E0_ok 60 (rot_63 y) rfl (Args := [.int .u64 (y.toNat : Int), .int .i64 (-63)]) (.cons (.bv rfl) (.cons .int .nil)) rfl w
          rw [show (y <<< 1) ||| (y >>> 63) = trn y 63 from BitVec.or_comm _ _] at h
          exact h
    · cases hv
  · cases hv
theorem ctrTurned_ok {R : Rws} : Good Try.prog R 47 ctrTurned := by
  refine ⟨enters_of Try.func47 (by kernel_rfl) rfl, fun args H v cs hv hcs => ?_⟩
  unfold ctrTurned at hv
  split at hv
  · rename_i H' x k
    split at hv
    · rename_i y hy
      cases hd : decide (k = 32 ∨ k = 24 ∨ k = 16 ∨ k = 63) <;> simp only [hd, cond_true, cond_false] at hv
      · cases hv
      · cases hv
        have hk := of_decide_eq_true hd
        refine ⟨_, rfl, fun Hr Args ha _ _ w _ => ?_⟩
        cases ha with | cons a1 ha => cases ha with | cons a2 ha =>
        cases ha
        rw [asBv_sound hy a1 rfl]
        cases a2
        rcases hk with rfl | rfl | rfl | rfl
        · exact ev_callsI E0_ok 60 (tur_32 y) rfl (Args := [.int .u64 (y.toNat : Int), .int .i64 32]) (.cons (.bv rfl) (.cons .int .nil)) rfl w
        · exact ev_callsI E0_ok 60 (tur_24 y) rfl (Args := [.int .u64 (y.toNat : Int), .int .i64 24]) (.cons (.bv rfl) (.cons .int .nil)) rfl w
        · exact ev_callsI E0_ok 60 (tur_16 y) rfl (Args := [.int .u64 (y.toNat : Int), .int .i64 16]) (.cons (.bv rfl) (.cons .int .nil)) rfl w
        · exact ev_callsI E0_ok 60 (tur_63 y) rfl (Args := [.int .u64 (y.toNat : Int), .int .i64 63]) (.cons (.bv rfl) (.cons .int .nil)) rfl w
    · cases hv
  · cases hv
noncomputable def tabA : List (Nat × CtrF) := [(61, ctrRot),
  (47, ctrTurned)]
theorem tabA_ok {R : Rws} : ∀ p ∈ tabA, Good Try.prog R p.1 p.2 := by
  have h0 : Good Try.prog R 61 ( ctrRot) := ctrRot_ok
  have h1 : Good Try.prog R 47 ( ctrTurned) := ctrTurned_ok
  exact good_cons (p := (_, _)) h0 (good_cons (p := (_, _)) h1 (good_nil))
noncomputable def effM : FuncId → Bool := fun f => Nat.beq f 51 || Nat.beq f 50 || Nat.beq f 39 || Nat.beq f 24
noncomputable def EA : Env := ⟨Try.prog, eqsK Try.prog, noRows, lookF tabA, lookCm [], fun _ => false, fun _ => false, effM⟩
theorem EA_ok : EnvOK EA := ⟨eqsK_ok, rwOK_no, fun f F h => lookF_ok tabA_ok f F h, fun f F h => lookCm_ok goodM_nil f F h, rfl⟩
end Go.Proofs.Ytjlijocnmicdpaa
