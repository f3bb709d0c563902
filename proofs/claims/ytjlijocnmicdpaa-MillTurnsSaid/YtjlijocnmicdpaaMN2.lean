/- Merged texts: MiH MiI MiJ MiX0 MiX MiV. No condition. -/
import Derived.Test.YtjlijocnmicdpaaMiG
set_option linter.unusedVariables false
set_option linter.unusedSimpArgs false
set_option maxRecDepth 100000
namespace Go.Proofs.Ytjlijocnmicdpaa
open Go.RowKit

section
/-- What is milled, read off its cells. -/
def xO (cs : List AV) : XM := match cs with
  | .int .u32 _ n :: r => ⟨n.toNat, vOf r, vOf (r.drop 8), (asB64 (r.getD 24 .junk)).getD 0#64, (asB64 (r.getD 25 .junk)).getD 0#64, match r.getD 26 .junk with | .bool _ b => b | _ => false⟩
  | _ => ⟨0, fun _ => 0#64, fun _ => 0#64, 0#64, 0#64, false⟩
def xN (cs : List AV) : Int := match cs with
  | .int .u32 _ n :: _ => n
  | _ => -1
def xB (cs : List AV) : Bool := match cs with
  | .int .u32 _ _ :: r => Nat.beq r.length 27 && (r.take 26).all (fun c => (asB64 c).isSome) && (match r.getD 26 .junk with | .bool _ _ => true | _ => false)
  | _ => false
theorem b64_val {v : AV} (hv : (asB64 v).isSome = true) : v.val? = (AV.bv .u64 ((asB64 v).getD 0#64)).val? := by
  obtain ⟨a, ha⟩ := Option.isSome_iff_exists.1 hv
  obtain ⟨V0, h0⟩ : ∃ V0, v.val? = some V0 := by
    unfold asB64 AV.asBv at ha
    split at ha
    · split at ha
      · rename_i e; subst e; exact ⟨_, by simp [AV.val?, IntKind.signed]; rfl⟩
      · cases ha
    · exact ⟨_, rfl⟩
    · cases ha
  rw [ha, h0, asBv_sound (R := noRows) (ρ := []) ha (Rel.of_val h0) rfl]
  rfl
theorem xO_vals {cs : List AV} (hb : xB cs = true) (hn : 0 ≤ xN cs) : AV.vals? cs = some (xV (xO cs)) := by
  unfold xB at hb
  split at hb
  · rename_i lit n r
    simp only [Bool.and_eq_true] at hb
    obtain ⟨⟨hl, ha⟩, hz⟩ := hb
    have hl := Nat.eq_of_beq_eq_true hl
    match r, hl with
    | [c0, c1, c2, c3, c4, c5, c6, c7, c8, c9, c10, c11, c12, c13, c14, c15, c16, c17, c18, c19, c20, c21, c22, c23, c24, c25, c26], _ =>
      simp only [List.take_succ_cons, List.take_zero, List.all_cons, List.all_nil, Bool.and_true, Bool.and_eq_true] at ha
      obtain ⟨h0, h1, h2, h3, h4, h5, h6, h7, h8, h9, h10, h11, h12, h13, h14, h15, h16, h17, h18, h19, h20, h21, h22, h23, h24, h25⟩ := ha
      have hc : ∃ l b, c26 = .bool l b := by
        simp only [List.getD_cons_succ, List.getD_cons_zero] at hz
        split at hz
        · exact ⟨_, _, rfl⟩
        · cases hz
      obtain ⟨l, b, rfl⟩ := hc
      have e : ((n.toNat : Nat) : Int) = n := Int.toNat_of_nonneg hn
      have hx : xV (xO (.int .u32 lit n :: [c0, c1, c2, c3, c4, c5, c6, c7, c8, c9, c10, c11, c12, c13, c14, c15, c16, c17, c18, c19, c20, c21, c22, c23, c24, c25, .bool l b])) = [.int .u32 (n.toNat : Int), .int .u64 (((asB64 c0).getD 0#64).toNat : Int), .int .u64 (((asB64 c1).getD 0#64).toNat : Int), .int .u64 (((asB64 c2).getD 0#64).toNat : Int), .int .u64 (((asB64 c3).getD 0#64).toNat : Int), .int .u64 (((asB64 c4).getD 0#64).toNat : Int), .int .u64 (((asB64 c5).getD 0#64).toNat : Int), .int .u64 (((asB64 c6).getD 0#64).toNat : Int), .int .u64 (((asB64 c7).getD 0#64).toNat : Int), .int .u64 (((asB64 c8).getD 0#64).toNat : Int), .int .u64 (((asB64 c9).getD 0#64).toNat : Int), .int .u64 (((asB64 c10).getD 0#64).toNat : Int), .int .u64 (((asB64 c11).getD 0#64).toNat : Int), .int .u64 (((asB64 c12).getD 0#64).toNat : Int), .int .u64 (((asB64 c13).getD 0#64).toNat : Int), .int .u64 (((asB64 c14).getD 0#64).toNat : Int), .int .u64 (((asB64 c15).getD 0#64).toNat : Int), .int .u64 (((asB64 c16).getD 0#64).toNat : Int), .int .u64 (((asB64 c17).getD 0#64).toNat : Int), .int .u64 (((asB64 c18).getD 0#64).toNat : Int), .int .u64 (((asB64 c19).getD 0#64).toNat : Int), .int .u64 (((asB64 c20).getD 0#64).toNat : Int), .int .u64 (((asB64 c21).getD 0#64).toNat : Int), .int .u64 (((asB64 c22).getD 0#64).toNat : Int), .int .u64 (((asB64 c23).getD 0#64).toNat : Int), .int .u64 (((asB64 c24).getD 0#64).toNat : Int), .int .u64 (((asB64 c25).getD 0#64).toNat : Int), .bool b] := rfl
      rw [hx, e]
      simp only [AV.vals?, b64_val h0, b64_val h1, b64_val h2, b64_val h3, b64_val h4, b64_val h5, b64_val h6, b64_val h7, b64_val h8, b64_val h9, b64_val h10, b64_val h11, b64_val h12, b64_val h13, b64_val h14, b64_val h15, b64_val h16, b64_val h17, b64_val h18, b64_val h19, b64_val h20, b64_val h21, b64_val h22, b64_val h23, b64_val h24, b64_val h25]
      rfl
  · cases hb
def ctrF (R : Rws) : CtrF
  | [.agg cs], _ => bif xB cs then some (.agg (fA (xO cs) (xO cs).last), [decide (0 ≤ xN cs ∧ xN cs ≤ 40)]) else none
  | _, _ => none
theorem xO_n {cs : List AV} (hb : xB cs = true) (h : xN cs ≤ 40) : (xO cs).n ≤ 40 := by
  unfold xB at hb
  split at hb
  · show Int.toNat _ ≤ 40
    have : xN _ ≤ 40 := h
    simp only [xN] at this
    omega
  · cases hb
theorem ctrF_ok {R : Rws} {f : FuncId} (hen : Enters Try.prog f) (h : ∀ (x : XM), x.n ≤ 40 → ∀ w, Calls Try.prog f #[.agg (xV x).toArray] w fun e w' => e = .returned (.agg (fV x x.last).toArray) ∧ Below w.heap.size w w') : Good Try.prog R f (ctrF R) := by
  refine ⟨hen, fun args H v cs hv hcs => ?_⟩
  unfold ctrF at hv
  split at hv
  · rename_i H' cs'
    cases hd : xB cs' <;> simp only [hd, cond_true, cond_false] at hv
    · cases hv
    · cases hv
      have h1 := of_decide_eq_true (hcs _ (List.mem_cons_self ..))
      refine ⟨_, told_fA _ _, fun Hr Args ha _ _ w _ => ?_⟩
      cases ha with | cons a1 ha =>
      cases ha
      cases a1 with | agg a1 =>
      have e := a1.vals (xO_vals hd h1.1)
      subst e
      exact h _ (xO_n hd h1.2) w
  · cases hv
end

section
noncomputable def tabU (R : Rws) : List (Nat × CtrF) := (8, ctrF R) :: (9, ctrF R) :: tabS R
theorem tabU_ok {R : Rws} (hR : RwOK R) : ∀ p ∈ tabU R, Good Try.prog R p.1 p.2 := good_cons (p := (_, _)) (ctrF_ok (enters_of Try.func8 (by kernel_rfl) rfl) millF_any) (good_cons (p := (_, _)) (ctrF_ok (enters_of Try.func9 (by kernel_rfl) rfl) refF_any) (tabS_ok hR))
noncomputable def EU1 (R : Rws) (g : Bool) : Env := ⟨Try.prog, eqsK Try.prog, R, lookF (tabU R), lookCm [(24, roundF)], fun _ => false, fun f => g && Nat.beq f 1000003, effM⟩
theorem EU1_ok {R : Rws} (hR : RwOK R) (g : Bool) : EnvOK (EU1 R g) := ⟨eqsK_ok, hR, fun f F h => lookF_ok (tabU_ok hR) f F h, fun f F h => lookCm_ok (goodM_cons (q := (_, _)) roundF_ok goodM_nil) f F h, rfl⟩
end

section
theorem made_true (n : Nat) (h m : Nat → BitVec 64) (o0 o1 : BitVec 64) : Is (evCall (EU1 noRows false) 60 12 [.agg (xA ⟨n, h, m, o0, o1, true⟩)] ⟨[], [true], allW⟩ (fun v _ => v = .agg (cB (madeV ⟨n, h, m, o0, o1, true⟩ true)))) := ev_eq [(true, true)] (.agg (cB (madeV ⟨n, h, m, o0, o1, true⟩ true)) : AV) (by kernel_rfl) (allE_cons rfl allE_nil)
theorem made_false (n : Nat) (h m : Nat → BitVec 64) (o0 o1 : BitVec 64) : Is (evCall (EU1 noRows false) 60 12 [.agg (xA ⟨n, h, m, o0, o1, false⟩)] ⟨[], [false], allW⟩ (fun v _ => v = .agg (cB (madeV ⟨n, h, m, o0, o1, false⟩ false)))) := ev_eq [(false, false)] (.agg (cB (madeV ⟨n, h, m, o0, o1, false⟩ false)) : AV) (by kernel_rfl) (allE_cons rfl allE_nil)
theorem refMade_any (x : XM) (w : World) : Calls Try.prog 12 #[.agg (xV x).toArray] w fun e w' => e = .returned (.agg (valsB (madeV x x.last)).toArray) ∧ Below w.heap.size w w' := by
  obtain ⟨n, h, m, o0, o1, b⟩ := x
  cases b
  · exact ev_callsI (EU1_ok rwOK_no false) 60 (made_false n h m o0 o1) rfl (.cons (rel_xA _) .nil) rfl w
  · exact ev_callsI (EU1_ok rwOK_no false) 60 (made_true n h m o0 o1) rfl (.cons (rel_xA _) .nil) rfl w
def ctrMade : CtrF
  | [.agg cs], _ => bif xB cs then some (.agg (cB (madeV (xO cs) (xO cs).last)), [decide (0 ≤ xN cs)]) else none
  | _, _ => none
theorem ctrMade_ok {R : Rws} : Good Try.prog R 12 ctrMade := by
  refine ⟨enters_of Try.func12 (by kernel_rfl) rfl, fun args H v cs hv hcs => ?_⟩
  unfold ctrMade at hv
  split at hv
  · rename_i H' cs'
    cases hd : xB cs' <;> simp only [hd, cond_true, cond_false] at hv
    · cases hv
    · cases hv
      have h1 := of_decide_eq_true (hcs _ (List.mem_cons_self ..))
      refine ⟨_, rfl, fun Hr Args ha _ _ w _ => ?_⟩
      cases ha with | cons a1 ha =>
      cases ha
      cases a1 with | agg a1 =>
      have e := a1.vals (xO_vals hd h1)
      subst e
      exact refMade_any _ w
  · cases hv
noncomputable def tabX (R : Rws) : List (Nat × CtrF) := (12, ctrMade) :: tabU R
theorem tabX_ok {R : Rws} (hR : RwOK R) : ∀ p ∈ tabX R, Good Try.prog R p.1 p.2 := good_cons (p := (_, _)) ctrMade_ok (tabU_ok hR)
noncomputable def EX (R : Rws) : Env := ⟨Try.prog, eqsK Try.prog, R, lookF (tabX R), lookCm [(24, roundF)], fun _ => false, fun _ => false, effM⟩
theorem EX_ok {R : Rws} (hR : RwOK R) : EnvOK (EX R) := ⟨eqsK_ok, hR, fun f F h => lookF_ok (tabX_ok hR) f F h, fun f F h => lookCm_ok (goodM_cons (q := (_, _)) roundF_ok goodM_nil) f F h, rfl⟩
end

section
noncomputable abbrev cM : Code := (Try.f3.body.getD .skip)
noncomputable abbrev nM : Nat := Try.f3.ntmps
noncomputable def tabY (R : Rws) : List (Nat × CtrF) := (6, ctr0 (.bool true true)) :: tabX R
noncomputable def EY1 : Env := ⟨Try.prog, eqsK Try.prog, noRows, lookF (tabY noRows), lookCm [(24, roundF)], fun _ => false, fun _ => false, effM⟩
theorem EY1_ok (hW : ∀ w, Calls Try.prog 6 #[] w fun e w' => e = .returned (.bool true) ∧ Below w.heap.size w w') : EnvOK EY1 := ⟨eqsK_ok, rwOK_no, fun f F h => lookF_ok (T := tabY noRows) (good_cons (p := (_, _)) (ctr0_ok (enters_of Try.func6 (by kernel_rfl) rfl) rfl hW) (tabX_ok rwOK_no)) f F h, fun f F h => lookCm_ok (goodM_cons (q := (_, _)) roundF_ok goodM_nil) f F h, rfl⟩
def eq8 : List (BitVec 64) → List (BitVec 64) → Bool
  | a :: l, b :: m => a == b && eq8 l m
  | _, _ => true
theorem eq8_self : ∀ l, eq8 l l = true
  | [] => rfl
  | a :: l => by rw [eq8, eq8_self l]; simp
def vL (v : Nat → BitVec 64) : List (BitVec 64) := [v 0, v 1, v 2, v 3, v 4, v 5, v 6, v 7, v 8, v 9, v 10, v 11, v 12, v 13, v 14, v 15]
def fL (x : XM) (b : Bool) : List (BitVec 64) := [x.h 0 ^^^ vR x b x.n 0 ^^^ vR x b x.n 8, x.h 1 ^^^ vR x b x.n 1 ^^^ vR x b x.n 9, x.h 2 ^^^ vR x b x.n 2 ^^^ vR x b x.n 10, x.h 3 ^^^ vR x b x.n 3 ^^^ vR x b x.n 11, x.h 4 ^^^ vR x b x.n 4 ^^^ vR x b x.n 12, x.h 5 ^^^ vR x b x.n 5 ^^^ vR x b x.n 13, x.h 6 ^^^ vR x b x.n 6 ^^^ vR x b x.n 14, x.h 7 ^^^ vR x b x.n 7 ^^^ vR x b x.n 15]
abbrev mnI (many W : Int) : Int := if (if many > 1 then many else 1) < W then (if many > 1 then many else 1) else W
noncomputable def q1 : Code := dropSeq 1 cM
noncomputable def q2 : Code := sR q1
noncomputable def q3 : Code := dropSeq 1 q2
noncomputable def q4 : Code := sR q3
noncomputable def qB : Code := lpB (bkB (dropSeq 1 (sL q4)))
noncomputable def qB1 : Code := dropSeq 1 qB
noncomputable def qX : Code := bkB (sL qB1)
noncomputable def qX1 : Code := dropSeq 1 qX
noncomputable def qRg : Code := dropSeq 1 (sL qX1)
def kA (x : XM) (many : Int) : Mem := [AIt.cells (xA x) 28, AIt.cells [.int .i64 false many] 3, AIt.cells [.bool true false] 4]
def kB (x : XM) (many : Int) : Mem := kA x many ++ [AIt.cells (xA x) 28]
theorem mt_a (x : XM) (many : Int) : ∀ r, Is (evCs EY1 60 (takeSeq 1 cM) ⟨pat (inLive 0 [.agg (xA x), .int .i64 false many]) r 0 nM, ⟨[], [], allW⟩⟩ (chK [(2, .ptr 0 0), (3, .ptr 1 0), (4, .ptr 2 0)] nM (kA x many) [])) := fun r => ev_eq [] (chR [(2, .ptr 0 0), (3, .ptr 1 0), (4, .ptr 2 0)] nM (kA x many) []) (by kernel_rfl) trivial
theorem mt_b (x : XM) (many : Int) (h : AllE [(decide ((x.n : Int) > 40), false)]) : ∀ r, Is (evT EY1 60 (.code (sL q1)) ⟨pat [(2, .ptr 0 0), (3, .ptr 1 0), (4, .ptr 2 0)] r 0 nM, ⟨kA x many, [false], allW⟩⟩ (chE .normal [(2, .ptr 0 0), (3, .ptr 1 0), (4, .ptr 2 0)] nM (kA x many) [])) := fun r => ev_eq [(decide ((x.n : Int) > 40), false)] (true, nM, ([(2, .ptr 0 0), (3, .ptr 1 0), (4, .ptr 2 0)] : List (Nat × AV)).map (fun p => some p.2), (kA x many : Mem), ([] : List Bool)) (by kernel_rfl) h
theorem mt_c (x : XM) (many : Int) : ∀ r, Is (evCs EY1 60 (takeSeq 1 q2) ⟨pat [(2, .ptr 0 0), (3, .ptr 1 0), (4, .ptr 2 0)] r 0 nM, ⟨kA x many, [], allW⟩⟩ (chK [(2, .ptr 0 0), (3, .ptr 1 0), (4, .ptr 2 0), (5, .func (.func 22) [.ptr 3 0])] nM (kB x many) [])) := fun r => ev_eq [] (chR [(2, .ptr 0 0), (3, .ptr 1 0), (4, .ptr 2 0), (5, .func (.func 22) [.ptr 3 0])] nM (kB x many) []) (by kernel_rfl) trivial
theorem mt_d (x : XM) (many : Int) (h : AllE [(decide (0 ≤ xN (xA x) ∧ xN (xA x) ≤ 40), true), (decide (0 ≤ xN (xA x) ∧ xN (xA x) ≤ 40), true), (true != eq8 (fL (xO (xA x)) (xO (xA x)).last) (fL (xO (xA x)) (xO (xA x)).last), false), (false, false)]) : ∀ r, Is (evT EY1 60 (.code (sL q3)) ⟨pat [(2, .ptr 0 0), (3, .ptr 1 0), (4, .ptr 2 0), (5, .func (.func 22) [.ptr 3 0])] r 0 nM, ⟨kB x many, [false, false], allW⟩⟩ (chE .normal [(2, .ptr 0 0), (3, .ptr 1 0), (4, .ptr 2 0), (5, .func (.func 22) [.ptr 3 0])] nM (kB x many) [])) := fun r => ev_eq [(decide (0 ≤ xN (xA x) ∧ xN (xA x) ≤ 40), true), (decide (0 ≤ xN (xA x) ∧ xN (xA x) ≤ 40), true), (true != eq8 (fL (xO (xA x)) (xO (xA x)).last) (fL (xO (xA x)) (xO (xA x)).last), false), (false, false)] (true, nM, ([(2, .ptr 0 0), (3, .ptr 1 0), (4, .ptr 2 0), (5, .func (.func 22) [.ptr 3 0])] : List (Nat × AV)).map (fun p => some p.2), (kB x many : Mem), ([] : List Bool)) (by kernel_rfl) h
theorem mt_e (x : XM) (many : Int) : ∀ r, Is (evCs EY1 60 (takeSeq 1 (sL q4)) ⟨pat [(2, .ptr 0 0), (3, .ptr 1 0), (4, .ptr 2 0), (5, .func (.func 22) [.ptr 3 0])] r 0 nM, ⟨kB x many, [], allW⟩⟩ (chK [(2, .ptr 0 0), (3, .ptr 1 0), (4, .ptr 2 0), (5, .func (.func 22) [.ptr 3 0]), (6, .ptr 4 0)] nM (kB x many ++ [AIt.cells [.int .i64 true 0] 3]) [])) := fun r => ev_eq [] (chR [(2, .ptr 0 0), (3, .ptr 1 0), (4, .ptr 2 0), (5, .func (.func 22) [.ptr 3 0]), (6, .ptr 4 0)] nM (kB x many ++ [AIt.cells [.int .i64 true 0] 3]) []) (by kernel_rfl) trivial
theorem mt_f0 (x : XM) (many : Int) : ∀ r, Is (evCs EY1 60 (takeSeq 1 qB) ⟨pat [(2, .ptr 0 0), (3, .ptr 1 0), (4, .ptr 2 0), (5, .func (.func 22) [.ptr 3 0]), (6, .ptr 4 0)] r 0 nM, ⟨kB x many ++ [AIt.cells [.int .i64 true 0] 3], [], allW⟩⟩ (chK [(2, .ptr 0 0), (3, .ptr 1 0), (4, .ptr 2 0), (5, .func (.func 22) [.ptr 3 0]), (6, .ptr 4 0)] nM (kB x many ++ [AIt.cells [.int .i64 true 0] 3]) [])) := fun r => ev_eq [] (chR [(2, .ptr 0 0), (3, .ptr 1 0), (4, .ptr 2 0), (5, .func (.func 22) [.ptr 3 0]), (6, .ptr 4 0)] nM (kB x many ++ [AIt.cells [.int .i64 true 0] 3]) []) (by kernel_rfl) trivial
theorem mt_g0 (x : XM) (many : Int) (h : AllE [(decide (0 ≤ xN (xA x)), true)]) : ∀ r, Is (evCs EY1 60 (takeSeq 1 qX) ⟨pat [(2, .ptr 0 0), (3, .ptr 1 0), (4, .ptr 2 0), (5, .func (.func 22) [.ptr 3 0]), (6, .ptr 4 0)] r 0 nM, ⟨kB x many ++ [AIt.cells [.int .i64 true 0] 3], [], allW⟩⟩ (chK [(2, .ptr 0 0), (3, .ptr 1 0), (4, .ptr 2 0), (5, .func (.func 22) [.ptr 3 0]), (6, .ptr 4 0), (7, .ptr 5 0), (8, .ptr 6 0)] nM (kB x many ++ [AIt.cells [.int .i64 true 0] 3, AIt.cells (cB (madeV x x.last)) 25, AIt.cells [.int .i64 true 0] 3]) [])) := fun r => ev_eq [(decide (0 ≤ xN (xA x)), true)] (chR [(2, .ptr 0 0), (3, .ptr 1 0), (4, .ptr 2 0), (5, .func (.func 22) [.ptr 3 0]), (6, .ptr 4 0), (7, .ptr 5 0), (8, .ptr 6 0)] nM (kB x many ++ [AIt.cells [.int .i64 true 0] 3, AIt.cells (cB (madeV x x.last)) 25, AIt.cells [.int .i64 true 0] 3]) []) (by kernel_rfl) h
theorem mt_h0 (x : XM) (many : Int) (v : Nat → BitVec 64) : ∀ r, Is (evCs EY1 60 (takeSeq 1 (sL qX1)) ⟨pat [(2, .ptr 0 0), (3, .ptr 1 0), (4, .ptr 2 0), (5, .func (.func 22) [.ptr 3 0]), (6, .ptr 4 0), (7, .ptr 5 0), (8, .ptr 6 0)] r 0 nM, ⟨kB x many ++ [AIt.cells [.int .i64 true 0] 3, AIt.cells (cB (v)) 25, AIt.cells [.int .i64 true 0] 3], [], allW⟩⟩ (chK [(2, .ptr 0 0), (3, .ptr 1 0), (4, .ptr 2 0), (5, .func (.func 22) [.ptr 3 0]), (6, .ptr 4 0), (7, .ptr 5 0), (8, .ptr 6 0), (37, .func (.func 22) [.ptr 3 0])] nM (kB x many ++ [AIt.cells [.int .i64 true 0] 3, AIt.cells (cB (v)) 25, AIt.cells [.int .i64 true 0] 3]) [])) := fun r => ev_eq [] (chR [(2, .ptr 0 0), (3, .ptr 1 0), (4, .ptr 2 0), (5, .func (.func 22) [.ptr 3 0]), (6, .ptr 4 0), (7, .ptr 5 0), (8, .ptr 6 0), (37, .func (.func 22) [.ptr 3 0])] nM (kB x many ++ [AIt.cells [.int .i64 true 0] 3, AIt.cells (cB (v)) 25, AIt.cells [.int .i64 true 0] 3]) []) (by kernel_rfl) trivial
theorem mt_r0t (x : XM) (many : Int) (v : Nat → BitVec 64) (n : Int) (k : Nat) (z : Nat → BitVec 64) (h : AllE [(decide (0 ≤ ((k : Nat) : Int) ∧ ((k : Nat) : Int) < 40), true), (((k : Nat) : Int) != n, false), (decide (n ≥ IntKind.wrap IntKind.i64 (x.n : Int)), false), (true != eq8 (vL (roundB (reV v) (reV x.m) (((k : Nat) : Int).toNat % 10))) (vL z), false), (decide (IntKind.wrap IntKind.i64 (n + 1) ≥ many), true)]) (r : Nat → Value) : Is (evR EY1 60 7 (rgA qRg) (rgB qRg) ⟨setps (pat [(2, .ptr 0 0), (3, .ptr 1 0), (4, .ptr 2 0), (5, .func (.func 22) [.ptr 3 0]), (6, .ptr 4 0), (7, .ptr 5 0), (8, .ptr 6 0), (37, .func (.func 22) [.ptr 3 0])] r 0 nM) (rgP qRg).toList [.int .i64 true ((k : Nat) : Int), .agg (cB z)], ⟨kB x many ++ [AIt.cells [.int .i64 true 0] 3, AIt.cells (cB (v)) 25, AIt.cells [.int .i64 false n] 3], [false, false, false, true], fun l => allW l && !memN l [3]⟩⟩ (rndK true (rgI qRg) 7 (kB x many ++ [AIt.cells [.int .i64 true 0] 3, AIt.cells (cB (roundB (reV v) (reV x.m) (((k : Nat) : Int).toNat % 10))) 25, AIt.cells [.int .i64 false (IntKind.wrap IntKind.i64 (n + 1))] 3]))) :=
  ev_eq [(decide (0 ≤ ((k : Nat) : Int) ∧ ((k : Nat) : Int) < 40), true), (((k : Nat) : Int) != n, false), (decide (n ≥ IntKind.wrap IntKind.i64 (x.n : Int)), false), (true != eq8 (vL (roundB (reV v) (reV x.m) (((k : Nat) : Int).toNat % 10))) (vL z), false), (decide (IntKind.wrap IntKind.i64 (n + 1) ≥ many), true)] (rndR true (kB x many ++ [AIt.cells [.int .i64 true 0] 3, AIt.cells (cB (roundB (reV v) (reV x.m) (((k : Nat) : Int).toNat % 10))) 25, AIt.cells [.int .i64 false (IntKind.wrap IntKind.i64 (n + 1))] 3])) (by kernel_rfl) h
theorem mt_r0f (x : XM) (many : Int) (v : Nat → BitVec 64) (n : Int) (k : Nat) (z : Nat → BitVec 64) (h : AllE [(decide (0 ≤ ((k : Nat) : Int) ∧ ((k : Nat) : Int) < 40), true), (((k : Nat) : Int) != n, false), (decide (n ≥ IntKind.wrap IntKind.i64 (x.n : Int)), false), (true != eq8 (vL (roundB (reV v) (reV x.m) (((k : Nat) : Int).toNat % 10))) (vL z), false), (decide (IntKind.wrap IntKind.i64 (n + 1) ≥ many), false)]) (r : Nat → Value) : Is (evR EY1 60 7 (rgA qRg) (rgB qRg) ⟨setps (pat [(2, .ptr 0 0), (3, .ptr 1 0), (4, .ptr 2 0), (5, .func (.func 22) [.ptr 3 0]), (6, .ptr 4 0), (7, .ptr 5 0), (8, .ptr 6 0), (37, .func (.func 22) [.ptr 3 0])] r 0 nM) (rgP qRg).toList [.int .i64 true ((k : Nat) : Int), .agg (cB z)], ⟨kB x many ++ [AIt.cells [.int .i64 true 0] 3, AIt.cells (cB (v)) 25, AIt.cells [.int .i64 false n] 3], [false, false, false, false], fun l => allW l && !memN l [3]⟩⟩ (rndK false (rgI qRg) 7 (kB x many ++ [AIt.cells [.int .i64 true 0] 3, AIt.cells (cB (roundB (reV v) (reV x.m) (((k : Nat) : Int).toNat % 10))) 25, AIt.cells [.int .i64 false (IntKind.wrap IntKind.i64 (n + 1))] 3]))) :=
  ev_eq [(decide (0 ≤ ((k : Nat) : Int) ∧ ((k : Nat) : Int) < 40), true), (((k : Nat) : Int) != n, false), (decide (n ≥ IntKind.wrap IntKind.i64 (x.n : Int)), false), (true != eq8 (vL (roundB (reV v) (reV x.m) (((k : Nat) : Int).toNat % 10))) (vL z), false), (decide (IntKind.wrap IntKind.i64 (n + 1) ≥ many), false)] (rndR false (kB x many ++ [AIt.cells [.int .i64 true 0] 3, AIt.cells (cB (roundB (reV v) (reV x.m) (((k : Nat) : Int).toNat % 10))) 25, AIt.cells [.int .i64 false (IntKind.wrap IntKind.i64 (n + 1))] 3])) (by kernel_rfl) h
theorem mt_i0 (x : XM) (many : Int) (v : Nat → BitVec 64) (n : Int) (h : AllE [(n != mnI many (IntKind.wrap IntKind.i64 (x.n : Int)), false)]) : ∀ r, Is (evT EY1 60 (.code (sR qX1)) ⟨pat [(2, .ptr 0 0), (3, .ptr 1 0), (4, .ptr 2 0), (5, .func (.func 22) [.ptr 3 0]), (6, .ptr 4 0), (7, .ptr 5 0), (8, .ptr 6 0), (37, .func (.func 22) [.ptr 3 0])] r 0 nM, ⟨kB x many ++ [AIt.cells [.int .i64 true 0] 3, AIt.cells (cB (v)) 25, AIt.cells [.int .i64 false n] 3], [false], allW⟩⟩ (chE .normal [(2, .ptr 0 0), (3, .ptr 1 0), (4, .ptr 2 0), (5, .func (.func 22) [.ptr 3 0]), (6, .ptr 4 0), (7, .ptr 5 0), (8, .ptr 6 0)] nM (kB x many ++ [AIt.cells [.int .i64 true 0] 3, AIt.cells (cB (v)) 25, AIt.cells [.int .i64 false n] 3]) [])) := fun r => ev_eq [(n != mnI many (IntKind.wrap IntKind.i64 (x.n : Int)), false)] (true, nM, ([(2, .ptr 0 0), (3, .ptr 1 0), (4, .ptr 2 0), (5, .func (.func 22) [.ptr 3 0]), (6, .ptr 4 0), (7, .ptr 5 0), (8, .ptr 6 0)] : List (Nat × AV)).map (fun p => some p.2), (kB x many ++ [AIt.cells [.int .i64 true 0] 3, AIt.cells (cB (v)) 25, AIt.cells [.int .i64 false n] 3] : Mem), ([] : List Bool)) (by kernel_rfl) h
theorem mt_j0 (x : XM) (many : Int) (v : Nat → BitVec 64) (n : Int) : ∀ r, Is (evT EY1 60 (.code (sR qB1)) ⟨pat [(2, .ptr 0 0), (3, .ptr 1 0), (4, .ptr 2 0), (5, .func (.func 22) [.ptr 3 0]), (6, .ptr 4 0), (7, .ptr 5 0), (8, .ptr 6 0)] r 0 nM, ⟨kB x many ++ [AIt.cells [.int .i64 true 0] 3, AIt.cells (cB (v)) 25, AIt.cells [.int .i64 false n] 3], [], allW⟩⟩ (chE .normal [(2, .ptr 0 0), (3, .ptr 1 0), (4, .ptr 2 0), (5, .func (.func 22) [.ptr 3 0]), (6, .ptr 7 0)] nM (kB x many ++ [AIt.cells [.int .i64 true 0] 3, AIt.cells (cB (v)) 25, AIt.cells [.int .i64 false n] 3, AIt.cells [.int .i64 true 1] 3]) [])) := fun r => ev_eq [] (true, nM, ([(2, .ptr 0 0), (3, .ptr 1 0), (4, .ptr 2 0), (5, .func (.func 22) [.ptr 3 0]), (6, .ptr 7 0)] : List (Nat × AV)).map (fun p => some p.2), (kB x many ++ [AIt.cells [.int .i64 true 0] 3, AIt.cells (cB (v)) 25, AIt.cells [.int .i64 false n] 3, AIt.cells [.int .i64 true 1] 3] : Mem), ([] : List Bool)) (by kernel_rfl) trivial
theorem mt_f1 (x : XM) (many : Int) (u : Nat → BitVec 64) (m : Int) : ∀ r, Is (evCs EY1 60 (takeSeq 1 qB) ⟨pat [(2, .ptr 0 0), (3, .ptr 1 0), (4, .ptr 2 0), (5, .func (.func 22) [.ptr 3 0]), (6, .ptr 7 0)] r 0 nM, ⟨kB x many ++ [AIt.cells [.int .i64 true 0] 3, AIt.cells (cB (u)) 25, AIt.cells [.int .i64 false m] 3, AIt.cells [.int .i64 true 1] 3], [], allW⟩⟩ (chK [(2, .ptr 0 0), (3, .ptr 1 0), (4, .ptr 2 0), (5, .func (.func 22) [.ptr 3 0]), (6, .ptr 7 0)] nM (kB x many ++ [AIt.cells [.int .i64 true 0] 3, AIt.cells (cB (u)) 25, AIt.cells [.int .i64 false m] 3, AIt.cells [.int .i64 true 1] 3]) [])) := fun r => ev_eq [] (chR [(2, .ptr 0 0), (3, .ptr 1 0), (4, .ptr 2 0), (5, .func (.func 22) [.ptr 3 0]), (6, .ptr 7 0)] nM (kB x many ++ [AIt.cells [.int .i64 true 0] 3, AIt.cells (cB (u)) 25, AIt.cells [.int .i64 false m] 3, AIt.cells [.int .i64 true 1] 3]) []) (by kernel_rfl) trivial
theorem mt_g1 (x : XM) (many : Int) (u : Nat → BitVec 64) (m : Int) (h : AllE [(decide (0 ≤ xN (xA x)), true)]) : ∀ r, Is (evCs EY1 60 (takeSeq 1 qX) ⟨pat [(2, .ptr 0 0), (3, .ptr 1 0), (4, .ptr 2 0), (5, .func (.func 22) [.ptr 3 0]), (6, .ptr 7 0)] r 0 nM, ⟨kB x many ++ [AIt.cells [.int .i64 true 0] 3, AIt.cells (cB (u)) 25, AIt.cells [.int .i64 false m] 3, AIt.cells [.int .i64 true 1] 3], [], allW⟩⟩ (chK [(2, .ptr 0 0), (3, .ptr 1 0), (4, .ptr 2 0), (5, .func (.func 22) [.ptr 3 0]), (6, .ptr 7 0), (7, .ptr 8 0), (8, .ptr 9 0)] nM (kB x many ++ [AIt.cells [.int .i64 true 0] 3, AIt.cells (cB (u)) 25, AIt.cells [.int .i64 false m] 3, AIt.cells [.int .i64 true 1] 3, AIt.cells (cB (madeV x x.last)) 25, AIt.cells [.int .i64 true 0] 3]) [])) := fun r => ev_eq [(decide (0 ≤ xN (xA x)), true)] (chR [(2, .ptr 0 0), (3, .ptr 1 0), (4, .ptr 2 0), (5, .func (.func 22) [.ptr 3 0]), (6, .ptr 7 0), (7, .ptr 8 0), (8, .ptr 9 0)] nM (kB x many ++ [AIt.cells [.int .i64 true 0] 3, AIt.cells (cB (u)) 25, AIt.cells [.int .i64 false m] 3, AIt.cells [.int .i64 true 1] 3, AIt.cells (cB (madeV x x.last)) 25, AIt.cells [.int .i64 true 0] 3]) []) (by kernel_rfl) h
theorem mt_h1 (x : XM) (many : Int) (u : Nat → BitVec 64) (m : Int) (v : Nat → BitVec 64) : ∀ r, Is (evCs EY1 60 (takeSeq 1 (sL qX1)) ⟨pat [(2, .ptr 0 0), (3, .ptr 1 0), (4, .ptr 2 0), (5, .func (.func 22) [.ptr 3 0]), (6, .ptr 7 0), (7, .ptr 8 0), (8, .ptr 9 0)] r 0 nM, ⟨kB x many ++ [AIt.cells [.int .i64 true 0] 3, AIt.cells (cB (u)) 25, AIt.cells [.int .i64 false m] 3, AIt.cells [.int .i64 true 1] 3, AIt.cells (cB (v)) 25, AIt.cells [.int .i64 true 0] 3], [], allW⟩⟩ (chK [(2, .ptr 0 0), (3, .ptr 1 0), (4, .ptr 2 0), (5, .func (.func 22) [.ptr 3 0]), (6, .ptr 7 0), (7, .ptr 8 0), (8, .ptr 9 0), (37, .func (.func 22) [.ptr 3 0])] nM (kB x many ++ [AIt.cells [.int .i64 true 0] 3, AIt.cells (cB (u)) 25, AIt.cells [.int .i64 false m] 3, AIt.cells [.int .i64 true 1] 3, AIt.cells (cB (v)) 25, AIt.cells [.int .i64 true 0] 3]) [])) := fun r => ev_eq [] (chR [(2, .ptr 0 0), (3, .ptr 1 0), (4, .ptr 2 0), (5, .func (.func 22) [.ptr 3 0]), (6, .ptr 7 0), (7, .ptr 8 0), (8, .ptr 9 0), (37, .func (.func 22) [.ptr 3 0])] nM (kB x many ++ [AIt.cells [.int .i64 true 0] 3, AIt.cells (cB (u)) 25, AIt.cells [.int .i64 false m] 3, AIt.cells [.int .i64 true 1] 3, AIt.cells (cB (v)) 25, AIt.cells [.int .i64 true 0] 3]) []) (by kernel_rfl) trivial
theorem mt_r1f (x : XM) (many : Int) (u : Nat → BitVec 64) (m : Int) (v : Nat → BitVec 64) (n : Int) (k : Nat) (z : Nat → BitVec 64) (h : AllE [(decide (0 ≤ ((k : Nat) : Int) ∧ ((k : Nat) : Int) < 40), true), (((k : Nat) : Int) != n, false), (decide (n ≥ IntKind.wrap IntKind.i64 (x.n : Int)), false), (true != eq8 (vL (roundB (reV v) (reV x.m) (((k : Nat) : Int).toNat % 10))) (vL z), false)]) (r : Nat → Value) : Is (evR EY1 60 10 (rgA qRg) (rgB qRg) ⟨setps (pat [(2, .ptr 0 0), (3, .ptr 1 0), (4, .ptr 2 0), (5, .func (.func 22) [.ptr 3 0]), (6, .ptr 7 0), (7, .ptr 8 0), (8, .ptr 9 0), (37, .func (.func 22) [.ptr 3 0])] r 0 nM) (rgP qRg).toList [.int .i64 true ((k : Nat) : Int), .agg (cB z)], ⟨kB x many ++ [AIt.cells [.int .i64 true 0] 3, AIt.cells (cB (u)) 25, AIt.cells [.int .i64 false m] 3, AIt.cells [.int .i64 true 1] 3, AIt.cells (cB (v)) 25, AIt.cells [.int .i64 false n] 3], [false, false, false], fun l => allW l && !memN l [3]⟩⟩ (rndK false (rgI qRg) 10 (kB x many ++ [AIt.cells [.int .i64 true 0] 3, AIt.cells (cB (u)) 25, AIt.cells [.int .i64 false m] 3, AIt.cells [.int .i64 true 1] 3, AIt.cells (cB (roundB (reV v) (reV x.m) (((k : Nat) : Int).toNat % 10))) 25, AIt.cells [.int .i64 false (IntKind.wrap IntKind.i64 (n + 1))] 3]))) :=
  ev_eq [(decide (0 ≤ ((k : Nat) : Int) ∧ ((k : Nat) : Int) < 40), true), (((k : Nat) : Int) != n, false), (decide (n ≥ IntKind.wrap IntKind.i64 (x.n : Int)), false), (true != eq8 (vL (roundB (reV v) (reV x.m) (((k : Nat) : Int).toNat % 10))) (vL z), false)] (rndR false (kB x many ++ [AIt.cells [.int .i64 true 0] 3, AIt.cells (cB (u)) 25, AIt.cells [.int .i64 false m] 3, AIt.cells [.int .i64 true 1] 3, AIt.cells (cB (roundB (reV v) (reV x.m) (((k : Nat) : Int).toNat % 10))) 25, AIt.cells [.int .i64 false (IntKind.wrap IntKind.i64 (n + 1))] 3])) (by kernel_rfl) h
theorem mt_i1 (x : XM) (many : Int) (u : Nat → BitVec 64) (m : Int) (v : Nat → BitVec 64) (n : Int) (h : AllE [(n != IntKind.wrap IntKind.i64 (x.n : Int), false)]) : ∀ r, Is (evT EY1 60 (.code (sR qX1)) ⟨pat [(2, .ptr 0 0), (3, .ptr 1 0), (4, .ptr 2 0), (5, .func (.func 22) [.ptr 3 0]), (6, .ptr 7 0), (7, .ptr 8 0), (8, .ptr 9 0), (37, .func (.func 22) [.ptr 3 0])] r 0 nM, ⟨kB x many ++ [AIt.cells [.int .i64 true 0] 3, AIt.cells (cB (u)) 25, AIt.cells [.int .i64 false m] 3, AIt.cells [.int .i64 true 1] 3, AIt.cells (cB (v)) 25, AIt.cells [.int .i64 false n] 3], [false], allW⟩⟩ (chE .normal [(2, .ptr 0 0), (3, .ptr 1 0), (4, .ptr 2 0), (5, .func (.func 22) [.ptr 3 0]), (6, .ptr 7 0), (7, .ptr 8 0), (8, .ptr 9 0)] nM (kB x many ++ [AIt.cells [.int .i64 true 0] 3, AIt.cells (cB (u)) 25, AIt.cells [.int .i64 false m] 3, AIt.cells [.int .i64 true 1] 3, AIt.cells (cB (v)) 25, AIt.cells [.int .i64 false n] 3]) [])) := fun r => ev_eq [(n != IntKind.wrap IntKind.i64 (x.n : Int), false)] (true, nM, ([(2, .ptr 0 0), (3, .ptr 1 0), (4, .ptr 2 0), (5, .func (.func 22) [.ptr 3 0]), (6, .ptr 7 0), (7, .ptr 8 0), (8, .ptr 9 0)] : List (Nat × AV)).map (fun p => some p.2), (kB x many ++ [AIt.cells [.int .i64 true 0] 3, AIt.cells (cB (u)) 25, AIt.cells [.int .i64 false m] 3, AIt.cells [.int .i64 true 1] 3, AIt.cells (cB (v)) 25, AIt.cells [.int .i64 false n] 3] : Mem), ([] : List Bool)) (by kernel_rfl) h
theorem mt_j1 (x : XM) (many : Int) (u : Nat → BitVec 64) (m : Int) (v : Nat → BitVec 64) (n : Int) : ∀ r, Is (evT EY1 60 (.code (sR qB1)) ⟨pat [(2, .ptr 0 0), (3, .ptr 1 0), (4, .ptr 2 0), (5, .func (.func 22) [.ptr 3 0]), (6, .ptr 7 0), (7, .ptr 8 0), (8, .ptr 9 0)] r 0 nM, ⟨kB x many ++ [AIt.cells [.int .i64 true 0] 3, AIt.cells (cB (u)) 25, AIt.cells [.int .i64 false m] 3, AIt.cells [.int .i64 true 1] 3, AIt.cells (cB (v)) 25, AIt.cells [.int .i64 false n] 3], [], allW⟩⟩ (chE .normal [(2, .ptr 0 0), (3, .ptr 1 0), (4, .ptr 2 0), (5, .func (.func 22) [.ptr 3 0]), (6, .ptr 10 0)] nM (kB x many ++ [AIt.cells [.int .i64 true 0] 3, AIt.cells (cB (u)) 25, AIt.cells [.int .i64 false m] 3, AIt.cells [.int .i64 true 1] 3, AIt.cells (cB (v)) 25, AIt.cells [.int .i64 false n] 3, AIt.cells [.int .i64 true 2] 3]) [])) := fun r => ev_eq [] (true, nM, ([(2, .ptr 0 0), (3, .ptr 1 0), (4, .ptr 2 0), (5, .func (.func 22) [.ptr 3 0]), (6, .ptr 10 0)] : List (Nat × AV)).map (fun p => some p.2), (kB x many ++ [AIt.cells [.int .i64 true 0] 3, AIt.cells (cB (u)) 25, AIt.cells [.int .i64 false m] 3, AIt.cells [.int .i64 true 1] 3, AIt.cells (cB (v)) 25, AIt.cells [.int .i64 false n] 3, AIt.cells [.int .i64 true 2] 3] : Mem), ([] : List Bool)) (by kernel_rfl) trivial
theorem mt_k (x : XM) (many : Int) (u : Nat → BitVec 64) (m : Int) (v : Nat → BitVec 64) (n : Int) : ∀ r, Is (evT EY1 60 (.code qB) ⟨pat [(2, .ptr 0 0), (3, .ptr 1 0), (4, .ptr 2 0), (5, .func (.func 22) [.ptr 3 0]), (6, .ptr 10 0)] r 0 nM, ⟨kB x many ++ [AIt.cells [.int .i64 true 0] 3, AIt.cells (cB (u)) 25, AIt.cells [.int .i64 false m] 3, AIt.cells [.int .i64 true 1] 3, AIt.cells (cB (v)) 25, AIt.cells [.int .i64 false n] 3, AIt.cells [.int .i64 true 2] 3], [], allW⟩⟩ (chE (.exit 0) [(2, .ptr 0 0), (3, .ptr 1 0), (4, .ptr 2 0), (5, .func (.func 22) [.ptr 3 0]), (6, .ptr 10 0)] nM (kB x many ++ [AIt.cells [.int .i64 true 0] 3, AIt.cells (cB (u)) 25, AIt.cells [.int .i64 false m] 3, AIt.cells [.int .i64 true 1] 3, AIt.cells (cB (v)) 25, AIt.cells [.int .i64 false n] 3, AIt.cells [.int .i64 true 2] 3]) [])) := fun r => ev_eq [] (true, nM, ([(2, .ptr 0 0), (3, .ptr 1 0), (4, .ptr 2 0), (5, .func (.func 22) [.ptr 3 0]), (6, .ptr 10 0)] : List (Nat × AV)).map (fun p => some p.2), (kB x many ++ [AIt.cells [.int .i64 true 0] 3, AIt.cells (cB (u)) 25, AIt.cells [.int .i64 false m] 3, AIt.cells [.int .i64 true 1] 3, AIt.cells (cB (v)) 25, AIt.cells [.int .i64 false n] 3, AIt.cells [.int .i64 true 2] 3] : Mem), ([] : List Bool)) (by kernel_rfl) trivial
theorem mt_z (x : XM) (many : Int) (u : Nat → BitVec 64) (m : Int) (v : Nat → BitVec 64) (n : Int) : ∀ rs, Is (evT EY1 60 (.code (sR q4)) ⟨pat [(2, .ptr 0 0), (3, .ptr 1 0), (4, .ptr 2 0), (5, .func (.func 22) [.ptr 3 0]), (6, .ptr 10 0)] rs 0 nM, ⟨kB x many ++ [AIt.cells [.int .i64 true 0] 3, AIt.cells (cB (u)) 25, AIt.cells [.int .i64 false m] 3, AIt.cells [.int .i64 true 1] 3, AIt.cells (cB (v)) 25, AIt.cells [.int .i64 false n] 3, AIt.cells [.int .i64 true 2] 3], [], allW⟩⟩ (retK EY1 Try.f3 (.bool true true))) := fun rs => ev_eq [] (some [AV.bool true true]) (by kernel_rfl) trivial
theorem mt_o (x : XM) (many : Int) (h : AllE [(decide ((x.n : Int) > 40), true)]) : Is (evCall EY1 60 3 [.agg (xA x), .int .i64 false many] ⟨[], [true], allW⟩ (fun v _ => v = .bool true true)) := ev_eq [(decide ((x.n : Int) > 40), true)] (.bool true true : AV) (by kernel_rfl) h
end

section
theorem seqMt {R : Rws} {D : List Deferred} {live : List (Nat × AV)} {n : Nat} {ds : List Bool} {wr : Nat → Bool} {ac : Act} (Hr : List RBlk) (w : World) (x : XM) (hn : x.n ≤ 40) {H : Mem} (hl : H[3]? = some (.cells (xA x) 28)) (hv : liveB H = true) (ho : ownB ((AIt.cells (xA x) 28).owner 3) [3] 0 H = true) (hP : PatSt R D live n ⟨H, ds, wr⟩ ac Hr) (hO : OwnK R H Hr w) (lb : List Value) (hlb : RelL R (nums Hr) [.ptr 3 0] lb) : Seq Try.prog 22 lb.toArray (encR x) (List.range x.n) (Sfz [3] Hr w) w := by
  obtain ⟨rs, vs, _, _, hBl, hnd⟩ := hP
  obtain ⟨q1, n1, hb1⟩ := blk_of hBl hO.1 (l := 3) hl (show AV.vals? (xA x) = some (xV x) from rfl)
  cases hlb with | cons h1 h2 =>
  cases h2
  obtain ⟨q2, m1, rfl⟩ := rel_ptr h1
  obtain rfl := Option.some.inj (n1.symm.trans m1)
  obtain ⟨p1, hp1, rfl⟩ := nums_at n1
  have hph := hBl.cph (l := 3) hl hp1
  exact rounds1_seq _ x hn w (Sfz [3] Hr w) hb1 (sfz_of hBl hnd hO.1 hv (l := 3) hl hp1 hph ho)
theorem pl_row (x : XM) (k : Nat) : AV.plains? [.int .i64 true ((k : Nat) : Int), .agg (cB (vR x x.last (k + 1)))] = some (encR x k k).toList := by kernel_rfl
set_option maxHeartbeats 8000000 in
theorem turns_law (hW : ∀ w, Calls Try.prog 6 #[] w fun e w' => e = .returned (.bool true) ∧ Below w.heap.size w w') (x : XM) (many : Int) (w : World) : Calls Try.prog 3 #[.agg (xV x).toArray, .int .i64 many] w fun e w' => e = .returned (.bool true) ∧ Below w.heap.size w w' := by
  have hE := EY1_ok hW
  by_cases hn : x.n ≤ 40
  case neg => exact ev_callsI hE 60 (mt_o x many (allE_cons (decide_eq_true (by omega)) allE_nil)) rfl (.cons (rel_xA x) (.cons .int .nil)) rfl w
  have hw := wrap_n (n := x.n) (by omega)
  have hcn : decide (0 ≤ xN (xA x) ∧ xN (xA x) ≤ 40) = true := decide_eq_true (show 0 ≤ (x.n : Int) ∧ (x.n : Int) ≤ 40 by omega)
  have hcm : decide (0 ≤ xN (xA x)) = true := decide_eq_true (show 0 ≤ (x.n : Int) by omega)
  have hpl : ∀ k y, (List.range x.n)[k]? = some y → AV.plains? [.int .i64 true ((k : Nat) : Int), .agg (cB (vR x x.last (k + 1)))] = some (encR x k y).toList := fun k y hy => by
    have hk := (List.getElem?_eq_some_iff.1 hy).1
    rw [List.getElem?_range (by simpa using hk)] at hy
    obtain rfl := Option.some.inj hy
    exact pl_row x k
  have hlt : ∀ k y, (List.range x.n)[k]? = some y → k < x.n := fun k y hy => by simpa using (List.getElem?_eq_some_iff.1 hy).1
  have hseq := fun Hr wx {ds} {D} {live} {n} {wr} {ac} {H : Mem} hl hv ho (hP : PatSt noRows D live n ⟨H, ds, wr⟩ ac Hr) hO lb hlb => seqMt Hr wx x hn hl hv ho hP hO lb hlb
  have hcond : ∀ k, k < x.n → decide (0 ≤ ((k : Nat) : Int) ∧ ((k : Nat) : Int) < 40) = true ∧ (((k : Nat) : Int) != ((k : Nat) : Int)) = false ∧ decide (((k : Nat) : Int) ≥ IntKind.wrap IntKind.i64 (x.n : Int)) = false ∧ (true != eq8 (vL (roundB (reV (vR x x.last k)) (reV x.m) (((k : Nat) : Int).toNat % 10))) (vL (vR x x.last (k + 1)))) = false := fun k hk => by
    refine ⟨decide_eq_true (by omega), by simp, decide_eq_false (by rw [hw]; omega), ?_⟩
    rw [Int.toNat_natCast, show roundB (reV (vR x x.last k)) (reV x.m) (k % 10) = vR x x.last (k + 1) from rfl, eq8_self]
    rfl
  refine ev_enter (E := EY1) (fn := Try.f3) (c := cM) Try.func3 (by kernel_rfl) (args := [.agg (xA x), .int .i64 false many]) (Args := [.agg (xV x).toArray, .int .i64 many]) (show 2 ≤ nM by decide) (.cons (rel_xA x) (.cons .int .nil)) (rd_no _ _) (ds := []) (wr := allW) fun a0 hP hB => ?_
  refine ev_seqs hE 60 1 (mt_a x many) hP hB fun a1 Hr1 w1 hP1 hB1 _ => ?_
  refine wp_parts (by kernel_rfl) ?_
  refine ev_codeE hE 60 .normal (mt_b x many (allE_cons (decide_eq_false (by omega)) allE_nil)) hP1 hB1 fun a2 Hr2 w2 hP2 hB2 _ => ?_
  refine ev_seqs hE 60 1 (mt_c x many) hP2 hB2 fun a3 Hr3 w3 hP3 hB3 _ => ?_
  refine wp_parts (by kernel_rfl) ?_
  refine ev_codeE hE 60 .normal (mt_d x many (allE_cons hcn (allE_cons hcn (allE_cons (by rw [eq8_self]; rfl) (allE_cons rfl allE_nil))))) hP3 hB3 fun a4 Hr4 w4 hP4 hB4 _ => ?_
  refine wp_parts (by kernel_rfl) ?_
  refine ev_seqs hE 60 1 (mt_e x many) hP4 hB4 fun a5 Hr5 w5 hP5 hB5 _ => ?_
  refine wp_bk (by kernel_rfl) (wp_lp 3 (by kernel_rfl) ?_)
  rw [rounds_succ]
  refine ev_seqs hE 60 1 (mt_f0 x many) hP5 hB5 fun b1 Kr1 v1 hQ1 hC1 _ => ?_
  refine wp_parts (by kernel_rfl) (wp_bk (by kernel_rfl) ?_)
  refine ev_seqs hE 60 1 (mt_g0 x many (allE_cons hcm allE_nil)) hQ1 hC1 fun b2 Kr2 v2 hQ2 hC2 _ => ?_
  refine wp_parts (by kernel_rfl) ?_
  refine ev_seqs hE 60 1 (mt_h0 x many _) hQ2 hC2 fun b3 Kr3 v3 hQ3 hC3 _ => ?_
  have hQ3' := patSt_cells (l := 6) (cs' := [.int .i64 false ((0 : Nat) : Int)]) (H := kB x many ++ [AIt.cells [.int .i64 true 0] 3, AIt.cells (cB (madeV x x.last)) 25, AIt.cells [.int .i64 true 0] 3]) rfl rfl rfl hQ3
  have hC3' := bun_cells (l := 6) (cs' := [.int .i64 false ((0 : Nat) : Int)]) (H := kB x many ++ [AIt.cells [.int .i64 true 0] 3, AIt.cells (cB (madeV x x.last)) 25, AIt.cells [.int .i64 true 0] 3]) rfl hC3
  refine ev_rangeAt hE 60 (m := ⟨kB x many ++ [AIt.cells [.int .i64 true 0] 3, AIt.cells (cB (vR x x.last 0)) 25, AIt.cells [.int .i64 false ((0 : Nat) : Int)] 3], [], allW⟩) (live := [(2, .ptr 0 0), (3, .ptr 1 0), (4, .ptr 2 0), (5, .func (.func 22) [.ptr 3 0]), (6, .ptr 4 0), (7, .ptr 5 0), (8, .ptr 6 0), (37, .func (.func 22) [.ptr 3 0])]) (n := nM) (caps := [.ptr 3 0]) (xs := List.range x.n) (encs := encR x) (by kernel_rfl) (fun _ => by kernel_rfl) (enters_of Try.func22 (by kernel_rfl) rfl) (by kernel_rfl) [3] (hseq Kr3 v3 rfl rfl rfl hQ3' hC3'.own) (fun k _ => [.int .i64 true ((k : Nat) : Int), .agg (cB (vR x x.last (k + 1)))]) (fun k y hy => hpl k y hy) (fun _ _ => rfl) (fun k => kB x many ++ [AIt.cells [.int .i64 true 0] 3, AIt.cells (cB (vR x x.last k)) 25, AIt.cells [.int .i64 false ((k : Nat) : Int)] 3]) rfl (fun _ => rfl) (fun k => [false, false, false, decide (IntKind.i64.wrap ((k : Int) + 1) ≥ many)]) (fun k => decide (IntKind.i64.wrap ((k : Int) + 1) ≥ many))
    (fun k y r hy _ => ?_) hQ3' hC3' fun k b4 Kr4 v4 hEn hQ4 hC4 _ => ?_
  · have hk := hlt k y hy
    obtain ⟨c1, c2, c3, c4⟩ := hcond k hk
    have e := wrap_k (k := k) (by omega)
    have e2 : vR x x.last (k + 1) = roundB (reV (vR x x.last k)) (reV x.m) (((k : Nat) : Int).toNat % 10) := by rw [Int.toNat_natCast]; rfl
    change Is (evR _ _ _ _ _ _ (rndK _ _ _ (kB x many ++ [AIt.cells [.int .i64 true 0] 3, AIt.cells (cB (vR x x.last (k + 1))) 25, AIt.cells [.int .i64 false (((k + 1) : Nat) : Int)] 3])))
    rw [← e]
    rcases hz : decide (IntKind.i64.wrap ((k : Int) + 1) ≥ many) with _ | _
    · have := mt_r0f x many (vR x x.last k) ((k : Nat) : Int) k (vR x x.last (k + 1)) (allE_cons c1 (allE_cons c2 (allE_cons c3 (allE_cons c4 (allE_cons hz allE_nil))))) r
      rw [← e2] at this
      exact this
    · have := mt_r0t x many (vR x x.last k) ((k : Nat) : Int) k (vR x x.last (k + 1)) (allE_cons c1 (allE_cons c2 (allE_cons c3 (allE_cons c4 (allE_cons hz allE_nil))))) r
      rw [← e2] at this
      exact this
  rw [List.length_range] at hEn
  have hkm : (((k : Nat) : Int) != mnI many (IntKind.wrap IntKind.i64 (x.n : Int))) = false := by
    have hb : ∀ j, j < x.n → (decide (IntKind.i64.wrap ((j : Int) + 1) ≥ many) = true ↔ many ≤ (j : Int) + 1) := fun j hj => by
      rw [wrap_k (by omega)]; simp
    rw [bne_eq_false_iff_eq, hw]
    show ((k : Nat) : Int) = if (if many > 1 then many else 1) < (x.n : Int) then (if many > 1 then many else 1) else (x.n : Int)
    rcases hEn with ⟨h1, h2⟩ | ⟨h1, h2, h3, h4⟩
    · subst h1
      rcases Nat.eq_zero_or_pos x.n with h0 | h0
      · repeat' split <;> omega
      · have h5 := h2 (x.n - 1) (by omega)
        have h6 := (not_congr (hb (x.n - 1) (by omega))).1 (by have h5 : decide (IntKind.i64.wrap (((x.n - 1 : Nat) : Int) + 1) ≥ many) = false := h5; rw [h5]; simp)
        repeat' split <;> omega
    · have h5 := (hb (k - 1) (by omega)).1 h3
      by_cases hk1 : k = 1
      · repeat' split <;> omega
      · have h6 := h4 (k - 2) (by omega)
        have h7 := (not_congr (hb (k - 2) (by omega))).1 (by have h6 : decide (IntKind.i64.wrap (((k - 2 : Nat) : Int) + 1) ≥ many) = false := h6; rw [h6]; simp)
        repeat' split <;> omega
  refine ev_codeE hE 60 .normal (mt_i0 x many (vR x x.last k) (k : Int) (allE_cons hkm allE_nil)) hQ4 hC4 fun b5 Kr5 v5 hQ5 hC5 _ => ?_
  refine ev_codeE hE 60 .normal (mt_j0 x many (vR x x.last k) (k : Int)) hQ5 hC5 fun b6 Kr6 v6 hQ6 hC6 _ => ?_
  refine ev_seqs hE 60 1 (mt_f1 x many (vR x x.last k) (k : Int)) hQ6 hC6 fun b7 Kr7 v7 hQ7 hC7 _ => ?_
  refine wp_parts (by kernel_rfl) (wp_bk (by kernel_rfl) ?_)
  refine ev_seqs hE 60 1 (mt_g1 x many (vR x x.last k) (k : Int) (allE_cons hcm allE_nil)) hQ7 hC7 fun b8 Kr8 v8 hQ8 hC8 _ => ?_
  refine wp_parts (by kernel_rfl) ?_
  refine ev_seqs hE 60 1 (mt_h1 x many (vR x x.last k) (k : Int) _) hQ8 hC8 fun b9 Kr9 v9 hQ9 hC9 _ => ?_
  have hQ9' := patSt_cells (l := 9) (cs' := [.int .i64 false ((0 : Nat) : Int)]) (H := kB x many ++ [AIt.cells [.int .i64 true 0] 3, AIt.cells (cB (vR x x.last k)) 25, AIt.cells [.int .i64 false (k : Int)] 3, AIt.cells [.int .i64 true 1] 3, AIt.cells (cB (madeV x x.last)) 25, AIt.cells [.int .i64 true 0] 3]) rfl rfl rfl hQ9
  have hC9' := bun_cells (l := 9) (cs' := [.int .i64 false ((0 : Nat) : Int)]) (H := kB x many ++ [AIt.cells [.int .i64 true 0] 3, AIt.cells (cB (vR x x.last k)) 25, AIt.cells [.int .i64 false (k : Int)] 3, AIt.cells [.int .i64 true 1] 3, AIt.cells (cB (madeV x x.last)) 25, AIt.cells [.int .i64 true 0] 3]) rfl hC9
  refine ev_rangeAt hE 60 (m := ⟨kB x many ++ [AIt.cells [.int .i64 true 0] 3, AIt.cells (cB (vR x x.last k)) 25, AIt.cells [.int .i64 false (k : Int)] 3, AIt.cells [.int .i64 true 1] 3, AIt.cells (cB (vR x x.last 0)) 25, AIt.cells [.int .i64 false ((0 : Nat) : Int)] 3], [], allW⟩) (live := [(2, .ptr 0 0), (3, .ptr 1 0), (4, .ptr 2 0), (5, .func (.func 22) [.ptr 3 0]), (6, .ptr 7 0), (7, .ptr 8 0), (8, .ptr 9 0), (37, .func (.func 22) [.ptr 3 0])]) (n := nM) (caps := [.ptr 3 0]) (xs := List.range x.n) (encs := encR x) (by kernel_rfl) (fun _ => by kernel_rfl) (enters_of Try.func22 (by kernel_rfl) rfl) (by kernel_rfl) [3] (hseq Kr9 v9 rfl rfl rfl hQ9' hC9'.own) (fun k _ => [.int .i64 true ((k : Nat) : Int), .agg (cB (vR x x.last (k + 1)))]) (fun k y hy => hpl k y hy) (fun _ _ => rfl) (fun j => kB x many ++ [AIt.cells [.int .i64 true 0] 3, AIt.cells (cB (vR x x.last k)) 25, AIt.cells [.int .i64 false (k : Int)] 3, AIt.cells [.int .i64 true 1] 3, AIt.cells (cB (vR x x.last j)) 25, AIt.cells [.int .i64 false ((j : Nat) : Int)] 3]) rfl (fun _ => rfl) (fun j => [false, false, false]) (fun j => false)
    (fun j y r hy _ => ?_) hQ9' hC9' fun j b10 Kr10 v10 hEn2 hQ10 hC10 _ => ?_
  · have hj := hlt j y hy
    obtain ⟨c1, c2, c3, c4⟩ := hcond j hj
    have e := wrap_k (k := j) (by omega)
    have e2 : vR x x.last (j + 1) = roundB (reV (vR x x.last j)) (reV x.m) (((j : Nat) : Int).toNat % 10) := by rw [Int.toNat_natCast]; rfl
    change Is (evR _ _ _ _ _ _ (rndK _ _ _ (kB x many ++ [AIt.cells [.int .i64 true 0] 3, AIt.cells (cB (vR x x.last k)) 25, AIt.cells [.int .i64 false (k : Int)] 3, AIt.cells [.int .i64 true 1] 3, AIt.cells (cB (vR x x.last (j + 1))) 25, AIt.cells [.int .i64 false (((j + 1) : Nat) : Int)] 3])))
    rw [← e]
    have := mt_r1f x many (vR x x.last k) (k : Int) (vR x x.last j) ((j : Nat) : Int) j (vR x x.last (j + 1)) (allE_cons c1 (allE_cons c2 (allE_cons c3 (allE_cons c4 allE_nil)))) r
    rw [← e2] at this
    exact this
  rw [List.length_range] at hEn2
  have hj : (((j : Nat) : Int) != IntKind.wrap IntKind.i64 (x.n : Int)) = false := by
    rw [bne_eq_false_iff_eq, hw]
    rcases hEn2 with ⟨h1, _⟩ | ⟨_, _, h3, _⟩
    · rw [h1]
    · cases h3
  refine ev_codeE hE 60 .normal (mt_i1 x many (vR x x.last k) (k : Int) (vR x x.last j) (j : Int) (allE_cons hj allE_nil)) hQ10 hC10 fun b11 Kr11 v11 hQ11 hC11 _ => ?_
  refine ev_codeE hE 60 .normal (mt_j1 x many (vR x x.last k) (k : Int) (vR x x.last j) (j : Int)) hQ11 hC11 fun b12 Kr12 v12 hQ12 hC12 _ => ?_
  refine ev_codeE hE 60 (.exit 0) (mt_k x many (vR x x.last k) (k : Int) (vR x x.last j) (j : Int)) hQ12 hC12 fun b13 Kr13 v13 hQ13 hC13 _ => ?_
  exact ev_rest hE 60 (mt_z x many (vR x x.last k) (k : Int) (vR x x.last j) (j : Int)) rfl (fun j r h => by cases h) hQ13 hC13
end

section
theorem allE_rep : ∀ n, AllE (List.replicate n (true, true))
  | 0 => allE_nil
  | n + 1 => allE_cons rfl (allE_rep n)
theorem works_ev : Is (evCall (EU1 noRows true) 60 6 [] ⟨[], [true, true, true, true], allW⟩ (fun v _ => v = .bool true true)) := ev_eq (List.replicate 135 (true, true)) (.bool true true : AV) (by kernel_rfl) (allE_rep 135)
theorem works_any (w : World) : Calls Try.prog 6 #[] w fun e w' => e = .returned (.bool true) ∧ Below w.heap.size w w' := ev_callsI (EU1_ok rwOK_no true) 60 works_ev rfl .nil rfl w
end
end Go.Proofs.Ytjlijocnmicdpaa
