/- maps.Equal. No condition. -/
import Derived.Test.YtjbleblllmbcbaaEyN
import Derived.Test.YtjbleblllmbcbaaEqK
set_option linter.unusedVariables false
set_option linter.unusedSimpArgs false
set_option maxRecDepth 100000
namespace Go.Proofs.Ytjbleblllmbcbaa
open Go.RowKit

def hdB (v : List Value) : Bool := match v.headD undef with
  | .bool b => b
  | _ => false
def eqM (E1 E2 : List Ent) : Bool := (!((E1.length : Int) != (E2.length : Int))) && E1.all fun p => (lookM p.1 E2).isSome && (hdB p.2 == hdB ((lookM p.1 E2).getD [.bool false]))
abbrev mB (ks : List IntKind) (E : List Ent) : MapI := ⟨ks, false, [.bool], E⟩
def okM (E2 : List Ent) (p : Ent) : Bool := (lookM p.1 E2).isSome && (hdB p.2 == hdB ((lookM p.1 E2).getD [.bool false]))
theorem eqM_no {E1 E2 : List Ent} {p : Ent} (hp : p ∈ E1) (h : okM E2 p = false) : eqM E1 E2 = false := by
  rw [Bool.eq_false_iff]
  intro he
  unfold eqM at he
  rw [Bool.and_eq_true, List.all_eq_true] at he
  have := he.2 p hp
  unfold okM at h
  rw [h] at this; cases this
def ctrQ (ks : List IntKind) : CtrF
  | [.mp l1, .mp l2], H => bif Nat.beq l1 l2 then none else match H[l1]?, H[l2]? with
    | some (.map m1), some (.map m2) => bif eqKs m1.ks ks && eqKs m2.ks ks && !m1.g && !m2.g && eqCs m1.cs [.bool] && eqCs m2.cs [.bool] then some (.bool false (eqM m1.E m2.E), []) else none
    | _, _ => none
  | _, _ => none
theorem ctrQ_inv {ks : List IntKind} {args : List AV} {H : Mem} {v : AV} {cs : List Bool} (h : ctrQ ks args H = some (v, cs)) : ∃ l1 l2 E1 E2, Nat.beq l1 l2 = false ∧ args = [.mp l1, .mp l2] ∧ H[l1]? = some (.map (mB ks E1)) ∧ H[l2]? = some (.map (mB ks E2)) ∧ v = .bool false (eqM E1 E2) := by
  unfold ctrQ at h
  split at h
  · rename_i l1 l2
    cases hl : Nat.beq l1 l2 <;> simp only [hl, cond_true, cond_false] at h
    · split at h
      · rename_i m1 m2 h1 h2
        cases hc : (eqKs m1.ks ks && eqKs m2.ks ks && !m1.g && !m2.g && eqCs m1.cs [.bool] && eqCs m2.cs [.bool]) <;> simp only [hc, cond_true, cond_false] at h
        · cases h
        cases h
        simp only [Bool.and_eq_true, Bool.not_eq_true'] at hc
        obtain ⟨⟨⟨⟨⟨c1, c2⟩, c3⟩, c4⟩, c5⟩, c6⟩ := hc
        obtain ⟨k1, g1, s1, E1⟩ := m1
        obtain ⟨k2, g2, s2, E2⟩ := m2
        simp only at c1 c2 c3 c4 c5 c6
        obtain rfl := eqKs_eq c1
        obtain rfl := eqKs_eq c2
        obtain rfl := eqCs_eq c5
        obtain rfl := eqCs_eq c6
        subst c3; subst c4
        exact ⟨l1, l2, E1, E2, hl, rfl, h1, h2, rfl⟩
      · cases h
    · cases h
  · cases h
def wrQ : Nat → Bool := fun l => Nat.ble 3 l
noncomputable def EQ (R : Rws) : Env := ⟨Try.prog, eqsK Try.prog, R, fun _ => none, fun _ => none, fun _ => false, fun _ => false, fun _ => false⟩
theorem hEQ {R : Rws} (hR : RwOK R) : EnvOK (EQ R) := ⟨eqsK_ok, hR, fun f F h => (by cases h), fun f F h => (by cases h), rfl⟩
def qaks : List IntKind := List.replicate 20 .u8
noncomputable def qakt : TypeId := match Try.prog.underlying (Try.f31.params.toList.headD 0) with
  | some (.map k _) => k
  | _ => 0
noncomputable def qaet : TypeId := match Try.prog.underlying (Try.f31.params.toList.headD 0) with
  | some (.map _ e) => e
  | _ => 0
noncomputable def qas2 : Code := dropSeq 2 (Try.f31.body.getD .skip)
noncomputable def qar3 : Code := sL (sL qas2)
noncomputable def qalp : Code := bkB (sR (sL qas2))
noncomputable def qar4 : Code := sL (lpB qalp)
noncomputable def qab1 : Code := bkB (sR (sR (lpB qalp)))
noncomputable def qar5 : Code := sL qab1
theorem qaa {R : Rws} (E1 E2 : List Ent) (h : AllE [(((E1.length : Int) != (E2.length : Int)), false)]) : ∀ r, Is (evCs (EQ R) 60 (takeSeq 2 (Try.f31.body.getD .skip)) ⟨pat (inLive 0 [.mp 0, .mp 1]) r 0 Try.f31.ntmps, ⟨[.map (mB qaks E1), .map (mB qaks E2)], [false], wrQ⟩⟩ (chK [(0, .mp 0), (1, .mp 1)] Try.f31.ntmps [.map (mB qaks E1), .map (mB qaks E2)] [])) := fun r => ev_eq [(((E1.length : Int) != (E2.length : Int)), false)] (chR [(0, .mp 0), (1, .mp 1)] Try.f31.ntmps [.map (mB qaks E1), .map (mB qaks E2)] []) (by kernel_rfl) h
theorem qaan {R : Rws} (E1 E2 : List Ent) (h : AllE [(((E1.length : Int) != (E2.length : Int)), true)]) : ∀ r, Is (evT (EQ R) 60 (.code (Try.f31.body.getD .skip)) ⟨pat (inLive 0 [.mp 0, .mp 1]) r 0 Try.f31.ntmps, ⟨[.map (mB qaks E1), .map (mB qaks E2)], [true], wrQ⟩⟩ (chE .ret [(4, .bool true false)] Try.f31.ntmps ([.map (mB qaks E1), .map (mB qaks E2)]) [])) := fun r => ev_eq [(((E1.length : Int) != (E2.length : Int)), true)] (chR [(4, .bool true false)] Try.f31.ntmps ([.map (mB qaks E1), .map (mB qaks E2)]) []) (by kernel_rfl) h
theorem qab {R : Rws} (E1 E2 : List Ent) : ∀ r, Is (listP (EQ R) (callWith (EQ R) (evT (EQ R) 60)) (regOps qar3) (((regOps qar3).drop 0).take 1) ⟨pat [(0, .mp 0), (1, .mp 1)] r 0 Try.f31.ntmps, ⟨[.map (mB qaks E1), .map (mB qaks E2)], [], wrQ⟩⟩ (chK [(14, .mp 0), (0, .mp 0), (1, .mp 1)] Try.f31.ntmps ([.map (mB qaks E1), .map (mB qaks E2)]) [] .normal)) := fun r => ev_eq [] (chR [(14, .mp 0), (0, .mp 0), (1, .mp 1)] Try.f31.ntmps ([.map (mB qaks E1), .map (mB qaks E2)]) []) (by kernel_rfl) trivial
theorem qact {R : Rws} (E1 E2 : List Ent) (p : Ent) : ∀ r, Is (listP (EQ R) (callWith (EQ R) (evT (EQ R) 60)) (regOps qar4) (((regOps qar4).drop 1).take 1) ⟨pat [(16, .tuple [.bool true true, (.agg (keyA qaks p.1)), (decM false [.bool] p.2)]), (0, .mp 0), (1, .mp 1), (15, .ptr 2 0)] r 0 Try.f31.ntmps, ⟨[.map (mB qaks E1), .map (mB qaks E2), .gone], [], wrQ⟩⟩ (chK [(17, .bool true true), (16, .tuple [.bool true true, (.agg (keyA qaks p.1)), (decM false [.bool] p.2)]), (0, .mp 0), (1, .mp 1), (15, .ptr 2 0)] Try.f31.ntmps ([.map (mB qaks E1), .map (mB qaks E2), .gone]) [] .normal)) := fun r => ev_eq [] (chR [(17, .bool true true), (16, .tuple [.bool true true, (.agg (keyA qaks p.1)), (decM false [.bool] p.2)]), (0, .mp 0), (1, .mp 1), (15, .ptr 2 0)] Try.f31.ntmps ([.map (mB qaks E1), .map (mB qaks E2), .gone]) []) (by kernel_rfl) trivial
theorem qacf {R : Rws} (E1 E2 : List Ent) : ∀ r, Is (listP (EQ R) (callWith (EQ R) (evT (EQ R) 60)) (regOps qar4) (((regOps qar4).drop 1).take 1) ⟨pat [(16, .tuple [.bool true false]), (0, .mp 0), (1, .mp 1), (15, .ptr 2 0)] r 0 Try.f31.ntmps, ⟨[.map (mB qaks E1), .map (mB qaks E2), .gone], [], wrQ⟩⟩ (chK [(17, .bool true false)] Try.f31.ntmps ([.map (mB qaks E1), .map (mB qaks E2), .gone]) [] .normal)) := fun r => ev_eq [] (chR [(17, .bool true false)] Try.f31.ntmps ([.map (mB qaks E1), .map (mB qaks E2), .gone]) []) (by kernel_rfl) trivial
theorem qadf {R : Rws} (E1 E2 : List Ent) : ∀ r, Is (evT (EQ R) 60 (.code (sR (lpB qalp))) ⟨pat [(17, .bool true false)] r 0 Try.f31.ntmps, ⟨[.map (mB qaks E1), .map (mB qaks E2), .gone], [], wrQ⟩⟩ (chE (.exit 0) [] Try.f31.ntmps ([.map (mB qaks E1), .map (mB qaks E2), .gone]) [])) := fun r => ev_eq [] (chR [] Try.f31.ntmps ([.map (mB qaks E1), .map (mB qaks E2), .gone]) []) (by kernel_rfl) trivial
theorem qadt {R : Rws} (E1 E2 : List Ent) (p : Ent) : ∀ r, Is (evT (EQ R) 60 (.code (sL (sR (lpB qalp)))) ⟨pat [(17, .bool true true), (16, .tuple [.bool true true, (.agg (keyA qaks p.1)), (decM false [.bool] p.2)]), (0, .mp 0), (1, .mp 1), (15, .ptr 2 0)] r 0 Try.f31.ntmps, ⟨[.map (mB qaks E1), .map (mB qaks E2), .gone], [], wrQ⟩⟩ (chE .normal [(17, .bool true true), (16, .tuple [.bool true true, (.agg (keyA qaks p.1)), (decM false [.bool] p.2)]), (0, .mp 0), (1, .mp 1), (15, .ptr 2 0)] Try.f31.ntmps ([.map (mB qaks E1), .map (mB qaks E2), .gone]) [])) := fun r => ev_eq [] (chR [(17, .bool true true), (16, .tuple [.bool true true, (.agg (keyA qaks p.1)), (decM false [.bool] p.2)]), (0, .mp 0), (1, .mp 1), (15, .ptr 2 0)] Try.f31.ntmps ([.map (mB qaks E1), .map (mB qaks E2), .gone]) []) (by kernel_rfl) trivial
theorem qae {R : Rws} (E1 E2 : List Ent) (p : Ent) : ∀ r, Is (listP (EQ R) (callWith (EQ R) (evT (EQ R) 60)) (regOps qar5) (((regOps qar5).drop 1).take 5) ⟨pat [(18, .tuple [(.agg (keyA qaks p.1)), (decM false [.bool] p.2)]), (17, .bool true true), (16, .tuple [.bool true true, (.agg (keyA qaks p.1)), (decM false [.bool] p.2)]), (0, .mp 0), (1, .mp 1), (15, .ptr 2 0)] r 0 Try.f31.ntmps, ⟨[.map (mB qaks E1), .map (mB qaks E2), .gone], [], wrQ⟩⟩ (chK [(6, (decM false [.bool] p.2)), (5, .ptr 3 0), (0, .mp 0), (1, .mp 1), (15, .ptr 2 0)] Try.f31.ntmps ([.map (mB qaks E1), .map (mB qaks E2), .gone, .cells (keyA qaks p.1) qakt]) [] .normal)) := fun r => ev_eq [] (chR [(6, (decM false [.bool] p.2)), (5, .ptr 3 0), (0, .mp 0), (1, .mp 1), (15, .ptr 2 0)] Try.f31.ntmps ([.map (mB qaks E1), .map (mB qaks E2), .gone, .cells (keyA qaks p.1) qakt]) []) (by kernel_rfl) trivial
theorem qafn {R : Rws} (E1 E2 : List Ent) (p : Ent) (h : AllE [((!(lookM (spell qaks p.1) E2).isSome), false), ((true != ((hdB p.2) == (hdB ((lookM (spell qaks p.1) E2).getD [.bool false])))), false)]) : ∀ r, Is (evT (EQ R) 60 (.code (sR qab1)) ⟨pat [(6, (decM false [.bool] p.2)), (5, .ptr 3 0), (0, .mp 0), (1, .mp 1), (15, .ptr 2 0)] r 0 Try.f31.ntmps, ⟨[.map (mB qaks E1), .map (mB qaks E2), .gone, .cells (keyA qaks p.1) qakt], [false, false], wrQ⟩⟩ (chE .normal [(0, .mp 0), (1, .mp 1), (15, .ptr 2 0)] Try.f31.ntmps ([.map (mB qaks E1), .map (mB qaks E2), .gone, .cells (keyA qaks p.1) qakt]) [])) := fun r => ev_eq [((!(lookM (spell qaks p.1) E2).isSome), false), ((true != ((hdB p.2) == (hdB ((lookM (spell qaks p.1) E2).getD [.bool false])))), false)] (chR [(0, .mp 0), (1, .mp 1), (15, .ptr 2 0)] Try.f31.ntmps ([.map (mB qaks E1), .map (mB qaks E2), .gone, .cells (keyA qaks p.1) qakt]) []) (by kernel_rfl) h
theorem qaf1 {R : Rws} (E1 E2 : List Ent) (p : Ent) (h : AllE [((!(lookM (spell qaks p.1) E2).isSome), true)]) : ∀ r, Is (evT (EQ R) 60 (.code (sR qab1)) ⟨pat [(6, (decM false [.bool] p.2)), (5, .ptr 3 0), (0, .mp 0), (1, .mp 1), (15, .ptr 2 0)] r 0 Try.f31.ntmps, ⟨[.map (mB qaks E1), .map (mB qaks E2), .gone, .cells (keyA qaks p.1) qakt], [true], wrQ⟩⟩ (chE .ret [(4, .bool true false)] Try.f31.ntmps ([.map (mB qaks E1), .map (mB qaks E2), .gone, .cells (keyA qaks p.1) qakt]) [])) := fun r => ev_eq [((!(lookM (spell qaks p.1) E2).isSome), true)] (chR [(4, .bool true false)] Try.f31.ntmps ([.map (mB qaks E1), .map (mB qaks E2), .gone, .cells (keyA qaks p.1) qakt]) []) (by kernel_rfl) h
theorem qaf2 {R : Rws} (E1 E2 : List Ent) (p : Ent) (h : AllE [((!(lookM (spell qaks p.1) E2).isSome), false), ((true != ((hdB p.2) == (hdB ((lookM (spell qaks p.1) E2).getD [.bool false])))), true)]) : ∀ r, Is (evT (EQ R) 60 (.code (sR qab1)) ⟨pat [(6, (decM false [.bool] p.2)), (5, .ptr 3 0), (0, .mp 0), (1, .mp 1), (15, .ptr 2 0)] r 0 Try.f31.ntmps, ⟨[.map (mB qaks E1), .map (mB qaks E2), .gone, .cells (keyA qaks p.1) qakt], [false, true], wrQ⟩⟩ (chE .ret [(4, .bool true false)] Try.f31.ntmps ([.map (mB qaks E1), .map (mB qaks E2), .gone, .cells (keyA qaks p.1) qakt]) [])) := fun r => ev_eq [((!(lookM (spell qaks p.1) E2).isSome), false), ((true != ((hdB p.2) == (hdB ((lookM (spell qaks p.1) E2).getD [.bool false])))), true)] (chR [(4, .bool true false)] Try.f31.ntmps ([.map (mB qaks E1), .map (mB qaks E2), .gone, .cells (keyA qaks p.1) qakt]) []) (by kernel_rfl) h
theorem qaz {R : Rws} (E1 E2 : List Ent) : ∀ r, Is (evT (EQ R) 60 (.code (dropSeq 1 qas2)) ⟨pat [] r 0 Try.f31.ntmps, ⟨[.map (mB qaks E1), .map (mB qaks E2), .gone], [], wrQ⟩⟩ (chE .ret [(4, .bool true true)] Try.f31.ntmps ([.map (mB qaks E1), .map (mB qaks E2), .gone]) [])) := fun r => ev_eq [] (chR [(4, .bool true true)] Try.f31.ntmps ([.map (mB qaks E1), .map (mB qaks E2), .gone]) []) (by kernel_rfl) trivial
set_option maxHeartbeats 4000000 in
theorem qaany {R : Rws} (hR : RwOK R) (E1 E2 : List Ent) (Hr : List RBlk) (w : World) (Args : List Value) (ha : RelL R (nums Hr) [.mp 0, .mp 1] Args) (hB : RelB R (nums Hr) [.map (mB qaks E1), .map (mB qaks E2)] Hr) (hA : Apart [.map (mB qaks E1), .map (mB qaks E2)] Hr) (hO : OwnK R [.map (mB qaks E1), .map (mB qaks E2)] Hr w) :
    Calls Try.prog 31 Args.toArray w fun e w' => e = .returned (.bool (eqM E1 E2)) ∧ Below w.heap.size w w' := by
  have hE := hEQ hR
  have hF0 : Fr0 w (fun l => Nat.ble 2 l) Hr w := ⟨Below.refl _ _, fun l q hl hb => by
    have h1 := (List.getElem?_eq_some_iff.1 hl).1
    have h2 := hB.len
    have h3 := Nat.le_of_ble_eq_true hb
    simp [nums] at h1 h2
    omega⟩
  have hwr : ∀ l, wrQ l = true → Nat.ble 2 l = true := fun l hl => by
    have := Nat.le_of_ble_eq_true (show Nat.ble 3 l = true from hl)
    exact Nat.ble_eq_true_of_le (by omega)
  have hend : ∀ {z : Bool} {H : Mem} {a Hr' w'} (_ : PatSt R ([].map markD) [(4, .bool true z)] Try.f31.ntmps ⟨H, [], wrQ⟩ a Hr') (_ : Bun R [] 0 w H Hr' w') (_ : Fr0 w (fun l => Nat.ble 2 l) Hr' w'), z = eqM E1 E2 → bodyPostM Fence.wide 0 Try.prog Try.f31 (fun e w' => e = .returned (.bool (eqM E1 E2)) ∧ Below w.heap.size w w') .ret a w' := fun {z H a Hr' w'} hP hB hF hz =>
    ev_endH (E := EQ R) hE (r := .bool true z) (fun rs => by kernel_rfl) hP hB (fun V hv => ⟨by rw [hv.bool_inv, hz], hF.1⟩) (.inl rfl)
  refine ev_enterH (E := EQ R) (fn := Try.f31) (c := (Try.f31.body.getD .skip)) Try.func31 (by kernel_rfl) (args := [.mp 0, .mp 1]) (show 2 ≤ Try.f31.ntmps by decide) ha hB hA hO (ds := [false]) (wr := wrQ) fun a0 hP hBn => ?_
  rcases hl : ((E1.length : Int) != (E2.length : Int)) with _ | _
  · refine ev_seqs hE 60 2 (qaa E1 E2 (allE_cons hl allE_nil)) hP hBn fun a1 Hr1 w1 hP1 hB1 hS1 => ?_
    have hF1 := hF0.step hS1 hwr
    refine wp_parts (by kernel_rfl) (wp_parts (by kernel_rfl) (wp_reg (by kernel_rfl) ?_))
    refine ev_ops hE 60 1 (qab E1 E2) hP1 hB1 fun a2 Hr2 w2 hP2 hB2 hS2 => ?_
    have hF2 := hF1.step hS2 hwr
    refine m_range (lm := 0) (m := mB qaks E1) (d := 15) (t := (Try.f31.params.toList.headD 0)) (k := qakt) (e := qaet) (x := .tmp 14) (by kernel_rfl) (by kernel_rfl) (fun r => by kernel_rfl) (by rfl) (by kernel_rfl) (by decide) hP2 hB2 (by rfl) (fun l hl hw => by
      have := Nat.le_of_ble_eq_true (show Nat.ble 3 l = true from hw)
      simp at hl; omega) fun a3 Hr3 w3 hM3 hS3 => ?_
    have hF3 := hF2.step hS3 hwr
    refine wpList_nil ?_
    refine wp_bk (by kernel_rfl) ?_
    have hM3' : MRun R [] 0 w wrQ 2 0 (mB qaks E1) [(0, .mp 0), (1, .mp 1), (15, .ptr 2 0)] Try.f31.ntmps [.map (mB qaks E1), .map (mB qaks E2), .gone] [] none [] a3 Hr3 w3 := hM3.sel (by rfl) (by kernel_rfl)
    refine m_loop (c := qalp) (by kernel_rfl) (fun _ => [(0, .mp 0), (1, .mp 1), (15, .ptr 2 0)]) (fun _ => [.map (mB qaks E1), .map (mB qaks E2), .gone]) (fun vis Hr w' => Fr0 w (fun l => Nat.ble 2 l) Hr w' ∧ ∀ p ∈ vis, okM E2 p = true) (fun vis a Hr' w' Q' hM hS hnext hexit => ?_) hM3' ⟨hF3, by simp⟩
    obtain ⟨hF, hok⟩ := hS
    refine wp_parts (by kernel_rfl) (wp_reg (by kernel_rfl) ?_)
    refine m_next (d := 16) (x := .tmp 15) (by kernel_rfl) (fun r => by kernel_rfl) (by kernel_rfl) (by decide) hM (fun hall a4 hM4 => ?_) (fun p hpE hpv hpl hpw a4 w4 hM4 hS4 => ?_)
    · refine ev_ops hE 60 1 (qacf E1 E2) hM4.pat hM4.bun fun a5 Hr5 w5 hP5 hB5 hS5 => ?_
      have hF5 := hF.step hS5 hwr
      refine ev_codeE hE 60 (.exit 0) (qadf E1 E2) hP5 hB5 fun a6 Hr6 w6 hP6 hB6 hS6 => ?_
      have hF6 := hF5.step hS6 hwr
      refine hexit (.exit 0) a6 w6 (by simp) ?_
      refine ev_codeE hE 60 .ret (qaz E1 E2) hP6 hB6 fun a7 Hr7 w7 hP7 hB7 hS7 => ?_
      refine hend hP7 hB7 (hF6.step hS7 hwr) ?_
      unfold eqM
      rw [hl, Bool.not_false, Bool.true_and, Eq.comm, List.all_eq_true]
      exact fun p hp => hok p (hall p hp)
    · have hF4 := hF.step hS4 (fun l hl => by rw [Nat.eq_of_beq_eq_true hl]; rfl)
      have hsp := spell_eq hpl
      refine ev_ops hE 60 1 (qact E1 E2 p) hM4.pat hM4.bun fun a5 Hr5 w5 hP5 hB5 hS5 => ?_
      have hF5 := hF4.step hS5 hwr
      have hM5 := hM4.step hP5 hB5 hS5 rfl rfl
      refine wp_parts (by kernel_rfl) ?_
      refine ev_codeE hE 60 .normal (qadt E1 E2 p) hM5.pat hM5.bun fun a6 Hr6 w6 hP6 hB6 hS6 => ?_
      have hF6 := hF5.step hS6 hwr
      have hM6 := hM5.step hP6 hB6 hS6 rfl rfl
      refine wp_bk (by kernel_rfl) (wp_parts (by kernel_rfl) (wp_reg (by kernel_rfl) ?_))
      refine m_entry (d := 18) (x := .tmp 15) (by kernel_rfl) (fun r => by kernel_rfl) (by kernel_rfl) (by decide) hM6 fun a7 hM7 => ?_
      refine ev_ops hE 60 5 (qae E1 E2 p) hM7.pat hM7.bun fun a8 Hr8 w8 hP8 hB8 hS8 => ?_
      have hF8 := hF6.step hS8 hwr
      have hM8 := hM7.step hP8 hB8 hS8 rfl rfl
      refine wpList_nil ?_
      rcases h1 : (lookM (spell qaks p.1) E2).isSome with _ | _
      · refine ev_codeE hE 60 .ret (qaf1 E1 E2 p (allE_cons (by rw [h1]; rfl) allE_nil)) hM8.pat hM8.bun fun a9 Hr9 w9 hP9 hB9 hS9 => ?_
        refine hexit .ret a9 w9 (by simp) (hend hP9 hB9 (hF8.step hS9 hwr) ?_)
        exact (eqM_no hpE (by unfold okM; rw [← hsp, h1]; rfl)).symm
      rcases h2 : (hdB p.2 == hdB ((lookM (spell qaks p.1) E2).getD [.bool false])) with _ | _
      · refine ev_codeE hE 60 .ret (qaf2 E1 E2 p (allE_cons (by rw [h1]; rfl) (allE_cons (by rw [h2]; rfl) allE_nil))) hM8.pat hM8.bun fun a9 Hr9 w9 hP9 hB9 hS9 => ?_
        refine hexit .ret a9 w9 (by simp) (hend hP9 hB9 (hF8.step hS9 hwr) ?_)
        exact (eqM_no hpE (by unfold okM; rw [← hsp, h2, Bool.and_false])).symm
      · refine ev_codeE hE 60 .normal (qafn E1 E2 p (allE_cons (by rw [h1]; rfl) (allE_cons (by rw [h2]; rfl) allE_nil))) hM8.pat hM8.bun fun a9 Hr9 w9 hP9 hB9 hS9 => ?_
        have hF9 := hF8.step hS9 hwr
        have hM9 := hM8.step hP9 hB9 hS9 rfl rfl
        refine hnext p a9 _ w9 hpv hpE (MRun.trim (H := [.map (mB qaks E1), .map (mB qaks E2), .gone]) (T := [.cells (keyA qaks p.1) qakt]) hM9 (by rfl) (by rfl) (by kernel_rfl) (by rfl) (by simp) (by simp)) ⟨hF9.trim 3, fun q hq => ?_⟩
        rcases List.mem_append.1 hq with hq | hq
        · exact hok q hq
        · rw [List.mem_singleton.1 hq]
          unfold okM
          rw [← hsp, h1, h2]; rfl
  · refine ev_codeE hE 60 .ret (qaan E1 E2 (allE_cons hl allE_nil)) (show PatSt R ([].map markD) (inLive 0 [.mp 0, .mp 1]) Try.f31.ntmps ⟨[.map (mB qaks E1), .map (mB qaks E2)], [true], wrQ⟩ a0 Hr from hP) hBn fun a1 Hr1 w1 hP1 hB1 hS1 => ?_
    exact hend hP1 hB1 (hF0.step hS1 hwr) (by unfold eqM; rw [hl]; rfl)
theorem qagood {R : Rws} (hR : RwOK R) : Good Try.prog R 31 (ctrQ qaks) := by
  refine ⟨enters_of Try.func31 (by kernel_rfl) rfl, fun args H v cs hv _ => ?_⟩
  obtain ⟨l1, l2, E1, E2, hl, rfl, h1, h2, rfl⟩ := ctrQ_inv hv
  refine ⟨.bool (eqM E1 E2), rfl, fun Hr Args ha hB hA w hO => ?_⟩
  obtain ⟨s1, s2, s3, s4⟩ := sub_mem (sel := [l1, l2]) (H' := [.map (mB qaks E1), .map (mB qaks E2)]) (by simp [nodupN, memN, hl]) (by simp [h1, h2, renI]) hB hA hO
  refine qaany hR E1 E2 _ w Args ?_ s1 s2 s3
  cases ha with | cons x1 ha => cases ha with | cons x2 ha =>
  cases ha
  obtain ⟨q1, e1, rfl⟩ := rel_mp x1
  obtain ⟨q2, e2, rfl⟩ := rel_mp x2
  exact .cons (.mp ((s4 0 l1 rfl).trans e1)) (.cons (.mp ((s4 1 l2 rfl).trans e2)) .nil)
def qsks : List IntKind := List.replicate 20 .u8 ++ List.replicate 4 .u64
noncomputable def qskt : TypeId := match Try.prog.underlying (Try.f32.params.toList.headD 0) with
  | some (.map k _) => k
  | _ => 0
noncomputable def qset : TypeId := match Try.prog.underlying (Try.f32.params.toList.headD 0) with
  | some (.map _ e) => e
  | _ => 0
noncomputable def qss2 : Code := dropSeq 2 (Try.f32.body.getD .skip)
noncomputable def qsr3 : Code := sL (sL qss2)
noncomputable def qslp : Code := bkB (sR (sL qss2))
noncomputable def qsr4 : Code := sL (lpB qslp)
noncomputable def qsb1 : Code := bkB (sR (sR (lpB qslp)))
noncomputable def qsr5 : Code := sL qsb1
theorem qsa {R : Rws} (E1 E2 : List Ent) (h : AllE [(((E1.length : Int) != (E2.length : Int)), false)]) : ∀ r, Is (evCs (EQ R) 60 (takeSeq 2 (Try.f32.body.getD .skip)) ⟨pat (inLive 0 [.mp 0, .mp 1]) r 0 Try.f32.ntmps, ⟨[.map (mB qsks E1), .map (mB qsks E2)], [false], wrQ⟩⟩ (chK [(0, .mp 0), (1, .mp 1)] Try.f32.ntmps [.map (mB qsks E1), .map (mB qsks E2)] [])) := fun r => ev_eq [(((E1.length : Int) != (E2.length : Int)), false)] (chR [(0, .mp 0), (1, .mp 1)] Try.f32.ntmps [.map (mB qsks E1), .map (mB qsks E2)] []) (by kernel_rfl) h
theorem qsan {R : Rws} (E1 E2 : List Ent) (h : AllE [(((E1.length : Int) != (E2.length : Int)), true)]) : ∀ r, Is (evT (EQ R) 60 (.code (Try.f32.body.getD .skip)) ⟨pat (inLive 0 [.mp 0, .mp 1]) r 0 Try.f32.ntmps, ⟨[.map (mB qsks E1), .map (mB qsks E2)], [true], wrQ⟩⟩ (chE .ret [(4, .bool true false)] Try.f32.ntmps ([.map (mB qsks E1), .map (mB qsks E2)]) [])) := fun r => ev_eq [(((E1.length : Int) != (E2.length : Int)), true)] (chR [(4, .bool true false)] Try.f32.ntmps ([.map (mB qsks E1), .map (mB qsks E2)]) []) (by kernel_rfl) h
theorem qsb {R : Rws} (E1 E2 : List Ent) : ∀ r, Is (listP (EQ R) (callWith (EQ R) (evT (EQ R) 60)) (regOps qsr3) (((regOps qsr3).drop 0).take 1) ⟨pat [(0, .mp 0), (1, .mp 1)] r 0 Try.f32.ntmps, ⟨[.map (mB qsks E1), .map (mB qsks E2)], [], wrQ⟩⟩ (chK [(14, .mp 0), (0, .mp 0), (1, .mp 1)] Try.f32.ntmps ([.map (mB qsks E1), .map (mB qsks E2)]) [] .normal)) := fun r => ev_eq [] (chR [(14, .mp 0), (0, .mp 0), (1, .mp 1)] Try.f32.ntmps ([.map (mB qsks E1), .map (mB qsks E2)]) []) (by kernel_rfl) trivial
theorem qsct {R : Rws} (E1 E2 : List Ent) (p : Ent) : ∀ r, Is (listP (EQ R) (callWith (EQ R) (evT (EQ R) 60)) (regOps qsr4) (((regOps qsr4).drop 1).take 1) ⟨pat [(16, .tuple [.bool true true, (.agg (keyA qsks p.1)), (decM false [.bool] p.2)]), (0, .mp 0), (1, .mp 1), (15, .ptr 2 0)] r 0 Try.f32.ntmps, ⟨[.map (mB qsks E1), .map (mB qsks E2), .gone], [], wrQ⟩⟩ (chK [(17, .bool true true), (16, .tuple [.bool true true, (.agg (keyA qsks p.1)), (decM false [.bool] p.2)]), (0, .mp 0), (1, .mp 1), (15, .ptr 2 0)] Try.f32.ntmps ([.map (mB qsks E1), .map (mB qsks E2), .gone]) [] .normal)) := fun r => ev_eq [] (chR [(17, .bool true true), (16, .tuple [.bool true true, (.agg (keyA qsks p.1)), (decM false [.bool] p.2)]), (0, .mp 0), (1, .mp 1), (15, .ptr 2 0)] Try.f32.ntmps ([.map (mB qsks E1), .map (mB qsks E2), .gone]) []) (by kernel_rfl) trivial
theorem qscf {R : Rws} (E1 E2 : List Ent) : ∀ r, Is (listP (EQ R) (callWith (EQ R) (evT (EQ R) 60)) (regOps qsr4) (((regOps qsr4).drop 1).take 1) ⟨pat [(16, .tuple [.bool true false]), (0, .mp 0), (1, .mp 1), (15, .ptr 2 0)] r 0 Try.f32.ntmps, ⟨[.map (mB qsks E1), .map (mB qsks E2), .gone], [], wrQ⟩⟩ (chK [(17, .bool true false)] Try.f32.ntmps ([.map (mB qsks E1), .map (mB qsks E2), .gone]) [] .normal)) := fun r => ev_eq [] (chR [(17, .bool true false)] Try.f32.ntmps ([.map (mB qsks E1), .map (mB qsks E2), .gone]) []) (by kernel_rfl) trivial
theorem qsdf {R : Rws} (E1 E2 : List Ent) : ∀ r, Is (evT (EQ R) 60 (.code (sR (lpB qslp))) ⟨pat [(17, .bool true false)] r 0 Try.f32.ntmps, ⟨[.map (mB qsks E1), .map (mB qsks E2), .gone], [], wrQ⟩⟩ (chE (.exit 0) [] Try.f32.ntmps ([.map (mB qsks E1), .map (mB qsks E2), .gone]) [])) := fun r => ev_eq [] (chR [] Try.f32.ntmps ([.map (mB qsks E1), .map (mB qsks E2), .gone]) []) (by kernel_rfl) trivial
theorem qsdt {R : Rws} (E1 E2 : List Ent) (p : Ent) : ∀ r, Is (evT (EQ R) 60 (.code (sL (sR (lpB qslp)))) ⟨pat [(17, .bool true true), (16, .tuple [.bool true true, (.agg (keyA qsks p.1)), (decM false [.bool] p.2)]), (0, .mp 0), (1, .mp 1), (15, .ptr 2 0)] r 0 Try.f32.ntmps, ⟨[.map (mB qsks E1), .map (mB qsks E2), .gone], [], wrQ⟩⟩ (chE .normal [(17, .bool true true), (16, .tuple [.bool true true, (.agg (keyA qsks p.1)), (decM false [.bool] p.2)]), (0, .mp 0), (1, .mp 1), (15, .ptr 2 0)] Try.f32.ntmps ([.map (mB qsks E1), .map (mB qsks E2), .gone]) [])) := fun r => ev_eq [] (chR [(17, .bool true true), (16, .tuple [.bool true true, (.agg (keyA qsks p.1)), (decM false [.bool] p.2)]), (0, .mp 0), (1, .mp 1), (15, .ptr 2 0)] Try.f32.ntmps ([.map (mB qsks E1), .map (mB qsks E2), .gone]) []) (by kernel_rfl) trivial
theorem qse {R : Rws} (E1 E2 : List Ent) (p : Ent) : ∀ r, Is (listP (EQ R) (callWith (EQ R) (evT (EQ R) 60)) (regOps qsr5) (((regOps qsr5).drop 1).take 5) ⟨pat [(18, .tuple [(.agg (keyA qsks p.1)), (decM false [.bool] p.2)]), (17, .bool true true), (16, .tuple [.bool true true, (.agg (keyA qsks p.1)), (decM false [.bool] p.2)]), (0, .mp 0), (1, .mp 1), (15, .ptr 2 0)] r 0 Try.f32.ntmps, ⟨[.map (mB qsks E1), .map (mB qsks E2), .gone], [], wrQ⟩⟩ (chK [(6, (decM false [.bool] p.2)), (5, .ptr 3 0), (0, .mp 0), (1, .mp 1), (15, .ptr 2 0)] Try.f32.ntmps ([.map (mB qsks E1), .map (mB qsks E2), .gone, .cells (keyA qsks p.1) qskt]) [] .normal)) := fun r => ev_eq [] (chR [(6, (decM false [.bool] p.2)), (5, .ptr 3 0), (0, .mp 0), (1, .mp 1), (15, .ptr 2 0)] Try.f32.ntmps ([.map (mB qsks E1), .map (mB qsks E2), .gone, .cells (keyA qsks p.1) qskt]) []) (by kernel_rfl) trivial
theorem qsfn {R : Rws} (E1 E2 : List Ent) (p : Ent) (h : AllE [((!(lookM (spell qsks p.1) E2).isSome), false), ((true != ((hdB p.2) == (hdB ((lookM (spell qsks p.1) E2).getD [.bool false])))), false)]) : ∀ r, Is (evT (EQ R) 60 (.code (sR qsb1)) ⟨pat [(6, (decM false [.bool] p.2)), (5, .ptr 3 0), (0, .mp 0), (1, .mp 1), (15, .ptr 2 0)] r 0 Try.f32.ntmps, ⟨[.map (mB qsks E1), .map (mB qsks E2), .gone, .cells (keyA qsks p.1) qskt], [false, false], wrQ⟩⟩ (chE .normal [(0, .mp 0), (1, .mp 1), (15, .ptr 2 0)] Try.f32.ntmps ([.map (mB qsks E1), .map (mB qsks E2), .gone, .cells (keyA qsks p.1) qskt]) [])) := fun r => ev_eq [((!(lookM (spell qsks p.1) E2).isSome), false), ((true != ((hdB p.2) == (hdB ((lookM (spell qsks p.1) E2).getD [.bool false])))), false)] (chR [(0, .mp 0), (1, .mp 1), (15, .ptr 2 0)] Try.f32.ntmps ([.map (mB qsks E1), .map (mB qsks E2), .gone, .cells (keyA qsks p.1) qskt]) []) (by kernel_rfl) h
theorem qsf1 {R : Rws} (E1 E2 : List Ent) (p : Ent) (h : AllE [((!(lookM (spell qsks p.1) E2).isSome), true)]) : ∀ r, Is (evT (EQ R) 60 (.code (sR qsb1)) ⟨pat [(6, (decM false [.bool] p.2)), (5, .ptr 3 0), (0, .mp 0), (1, .mp 1), (15, .ptr 2 0)] r 0 Try.f32.ntmps, ⟨[.map (mB qsks E1), .map (mB qsks E2), .gone, .cells (keyA qsks p.1) qskt], [true], wrQ⟩⟩ (chE .ret [(4, .bool true false)] Try.f32.ntmps ([.map (mB qsks E1), .map (mB qsks E2), .gone, .cells (keyA qsks p.1) qskt]) [])) := fun r => ev_eq [((!(lookM (spell qsks p.1) E2).isSome), true)] (chR [(4, .bool true false)] Try.f32.ntmps ([.map (mB qsks E1), .map (mB qsks E2), .gone, .cells (keyA qsks p.1) qskt]) []) (by kernel_rfl) h
theorem qsf2 {R : Rws} (E1 E2 : List Ent) (p : Ent) (h : AllE [((!(lookM (spell qsks p.1) E2).isSome), false), ((true != ((hdB p.2) == (hdB ((lookM (spell qsks p.1) E2).getD [.bool false])))), true)]) : ∀ r, Is (evT (EQ R) 60 (.code (sR qsb1)) ⟨pat [(6, (decM false [.bool] p.2)), (5, .ptr 3 0), (0, .mp 0), (1, .mp 1), (15, .ptr 2 0)] r 0 Try.f32.ntmps, ⟨[.map (mB qsks E1), .map (mB qsks E2), .gone, .cells (keyA qsks p.1) qskt], [false, true], wrQ⟩⟩ (chE .ret [(4, .bool true false)] Try.f32.ntmps ([.map (mB qsks E1), .map (mB qsks E2), .gone, .cells (keyA qsks p.1) qskt]) [])) := fun r => ev_eq [((!(lookM (spell qsks p.1) E2).isSome), false), ((true != ((hdB p.2) == (hdB ((lookM (spell qsks p.1) E2).getD [.bool false])))), true)] (chR [(4, .bool true false)] Try.f32.ntmps ([.map (mB qsks E1), .map (mB qsks E2), .gone, .cells (keyA qsks p.1) qskt]) []) (by kernel_rfl) h
theorem qsz {R : Rws} (E1 E2 : List Ent) : ∀ r, Is (evT (EQ R) 60 (.code (dropSeq 1 qss2)) ⟨pat [] r 0 Try.f32.ntmps, ⟨[.map (mB qsks E1), .map (mB qsks E2), .gone], [], wrQ⟩⟩ (chE .ret [(4, .bool true true)] Try.f32.ntmps ([.map (mB qsks E1), .map (mB qsks E2), .gone]) [])) := fun r => ev_eq [] (chR [(4, .bool true true)] Try.f32.ntmps ([.map (mB qsks E1), .map (mB qsks E2), .gone]) []) (by kernel_rfl) trivial
set_option maxHeartbeats 4000000 in
theorem qsany {R : Rws} (hR : RwOK R) (E1 E2 : List Ent) (Hr : List RBlk) (w : World) (Args : List Value) (ha : RelL R (nums Hr) [.mp 0, .mp 1] Args) (hB : RelB R (nums Hr) [.map (mB qsks E1), .map (mB qsks E2)] Hr) (hA : Apart [.map (mB qsks E1), .map (mB qsks E2)] Hr) (hO : OwnK R [.map (mB qsks E1), .map (mB qsks E2)] Hr w) :
    Calls Try.prog 32 Args.toArray w fun e w' => e = .returned (.bool (eqM E1 E2)) ∧ Below w.heap.size w w' := by
  have hE := hEQ hR
  have hF0 : Fr0 w (fun l => Nat.ble 2 l) Hr w := ⟨Below.refl _ _, fun l q hl hb => by
    have h1 := (List.getElem?_eq_some_iff.1 hl).1
    have h2 := hB.len
    have h3 := Nat.le_of_ble_eq_true hb
    simp [nums] at h1 h2
    omega⟩
  have hwr : ∀ l, wrQ l = true → Nat.ble 2 l = true := fun l hl => by
    have := Nat.le_of_ble_eq_true (show Nat.ble 3 l = true from hl)
    exact Nat.ble_eq_true_of_le (by omega)
  have hend : ∀ {z : Bool} {H : Mem} {a Hr' w'} (_ : PatSt R ([].map markD) [(4, .bool true z)] Try.f32.ntmps ⟨H, [], wrQ⟩ a Hr') (_ : Bun R [] 0 w H Hr' w') (_ : Fr0 w (fun l => Nat.ble 2 l) Hr' w'), z = eqM E1 E2 → bodyPostM Fence.wide 0 Try.prog Try.f32 (fun e w' => e = .returned (.bool (eqM E1 E2)) ∧ Below w.heap.size w w') .ret a w' := fun {z H a Hr' w'} hP hB hF hz =>
    ev_endH (E := EQ R) hE (r := .bool true z) (fun rs => by kernel_rfl) hP hB (fun V hv => ⟨by rw [hv.bool_inv, hz], hF.1⟩) (.inl rfl)
  refine ev_enterH (E := EQ R) (fn := Try.f32) (c := (Try.f32.body.getD .skip)) Try.func32 (by kernel_rfl) (args := [.mp 0, .mp 1]) (show 2 ≤ Try.f32.ntmps by decide) ha hB hA hO (ds := [false]) (wr := wrQ) fun a0 hP hBn => ?_
  rcases hl : ((E1.length : Int) != (E2.length : Int)) with _ | _
  · refine ev_seqs hE 60 2 (qsa E1 E2 (allE_cons hl allE_nil)) hP hBn fun a1 Hr1 w1 hP1 hB1 hS1 => ?_
    have hF1 := hF0.step hS1 hwr
    refine wp_parts (by kernel_rfl) (wp_parts (by kernel_rfl) (wp_reg (by kernel_rfl) ?_))
    refine ev_ops hE 60 1 (qsb E1 E2) hP1 hB1 fun a2 Hr2 w2 hP2 hB2 hS2 => ?_
    have hF2 := hF1.step hS2 hwr
    refine m_range (lm := 0) (m := mB qsks E1) (d := 15) (t := (Try.f32.params.toList.headD 0)) (k := qskt) (e := qset) (x := .tmp 14) (by kernel_rfl) (by kernel_rfl) (fun r => by kernel_rfl) (by rfl) (by kernel_rfl) (by decide) hP2 hB2 (by rfl) (fun l hl hw => by
      have := Nat.le_of_ble_eq_true (show Nat.ble 3 l = true from hw)
      simp at hl; omega) fun a3 Hr3 w3 hM3 hS3 => ?_
    have hF3 := hF2.step hS3 hwr
    refine wpList_nil ?_
    refine wp_bk (by kernel_rfl) ?_
    have hM3' : MRun R [] 0 w wrQ 2 0 (mB qsks E1) [(0, .mp 0), (1, .mp 1), (15, .ptr 2 0)] Try.f32.ntmps [.map (mB qsks E1), .map (mB qsks E2), .gone] [] none [] a3 Hr3 w3 := hM3.sel (by rfl) (by kernel_rfl)
    refine m_loop (c := qslp) (by kernel_rfl) (fun _ => [(0, .mp 0), (1, .mp 1), (15, .ptr 2 0)]) (fun _ => [.map (mB qsks E1), .map (mB qsks E2), .gone]) (fun vis Hr w' => Fr0 w (fun l => Nat.ble 2 l) Hr w' ∧ ∀ p ∈ vis, okM E2 p = true) (fun vis a Hr' w' Q' hM hS hnext hexit => ?_) hM3' ⟨hF3, by simp⟩
    obtain ⟨hF, hok⟩ := hS
    refine wp_parts (by kernel_rfl) (wp_reg (by kernel_rfl) ?_)
    refine m_next (d := 16) (x := .tmp 15) (by kernel_rfl) (fun r => by kernel_rfl) (by kernel_rfl) (by decide) hM (fun hall a4 hM4 => ?_) (fun p hpE hpv hpl hpw a4 w4 hM4 hS4 => ?_)
    · refine ev_ops hE 60 1 (qscf E1 E2) hM4.pat hM4.bun fun a5 Hr5 w5 hP5 hB5 hS5 => ?_
      have hF5 := hF.step hS5 hwr
      refine ev_codeE hE 60 (.exit 0) (qsdf E1 E2) hP5 hB5 fun a6 Hr6 w6 hP6 hB6 hS6 => ?_
      have hF6 := hF5.step hS6 hwr
      refine hexit (.exit 0) a6 w6 (by simp) ?_
      refine ev_codeE hE 60 .ret (qsz E1 E2) hP6 hB6 fun a7 Hr7 w7 hP7 hB7 hS7 => ?_
      refine hend hP7 hB7 (hF6.step hS7 hwr) ?_
      unfold eqM
      rw [hl, Bool.not_false, Bool.true_and, Eq.comm, List.all_eq_true]
      exact fun p hp => hok p (hall p hp)
    · have hF4 := hF.step hS4 (fun l hl => by rw [Nat.eq_of_beq_eq_true hl]; rfl)
      have hsp := spell_eq hpl
      refine ev_ops hE 60 1 (qsct E1 E2 p) hM4.pat hM4.bun fun a5 Hr5 w5 hP5 hB5 hS5 => ?_
      have hF5 := hF4.step hS5 hwr
      have hM5 := hM4.step hP5 hB5 hS5 rfl rfl
      refine wp_parts (by kernel_rfl) ?_
      refine ev_codeE hE 60 .normal (qsdt E1 E2 p) hM5.pat hM5.bun fun a6 Hr6 w6 hP6 hB6 hS6 => ?_
      have hF6 := hF5.step hS6 hwr
      have hM6 := hM5.step hP6 hB6 hS6 rfl rfl
      refine wp_bk (by kernel_rfl) (wp_parts (by kernel_rfl) (wp_reg (by kernel_rfl) ?_))
      refine m_entry (d := 18) (x := .tmp 15) (by kernel_rfl) (fun r => by kernel_rfl) (by kernel_rfl) (by decide) hM6 fun a7 hM7 => ?_
      refine ev_ops hE 60 5 (qse E1 E2 p) hM7.pat hM7.bun fun a8 Hr8 w8 hP8 hB8 hS8 => ?_
      have hF8 := hF6.step hS8 hwr
      have hM8 := hM7.step hP8 hB8 hS8 rfl rfl
      refine wpList_nil ?_
      rcases h1 : (lookM (spell qsks p.1) E2).isSome with _ | _
      · refine ev_codeE hE 60 .ret (qsf1 E1 E2 p (allE_cons (by rw [h1]; rfl) allE_nil)) hM8.pat hM8.bun fun a9 Hr9 w9 hP9 hB9 hS9 => ?_
        refine hexit .ret a9 w9 (by simp) (hend hP9 hB9 (hF8.step hS9 hwr) ?_)
        exact (eqM_no hpE (by unfold okM; rw [← hsp, h1]; rfl)).symm
      rcases h2 : (hdB p.2 == hdB ((lookM (spell qsks p.1) E2).getD [.bool false])) with _ | _
      · refine ev_codeE hE 60 .ret (qsf2 E1 E2 p (allE_cons (by rw [h1]; rfl) (allE_cons (by rw [h2]; rfl) allE_nil))) hM8.pat hM8.bun fun a9 Hr9 w9 hP9 hB9 hS9 => ?_
        refine hexit .ret a9 w9 (by simp) (hend hP9 hB9 (hF8.step hS9 hwr) ?_)
        exact (eqM_no hpE (by unfold okM; rw [← hsp, h2, Bool.and_false])).symm
      · refine ev_codeE hE 60 .normal (qsfn E1 E2 p (allE_cons (by rw [h1]; rfl) (allE_cons (by rw [h2]; rfl) allE_nil))) hM8.pat hM8.bun fun a9 Hr9 w9 hP9 hB9 hS9 => ?_
        have hF9 := hF8.step hS9 hwr
        have hM9 := hM8.step hP9 hB9 hS9 rfl rfl
        refine hnext p a9 _ w9 hpv hpE (MRun.trim (H := [.map (mB qsks E1), .map (mB qsks E2), .gone]) (T := [.cells (keyA qsks p.1) qskt]) hM9 (by rfl) (by rfl) (by kernel_rfl) (by rfl) (by simp) (by simp)) ⟨hF9.trim 3, fun q hq => ?_⟩
        rcases List.mem_append.1 hq with hq | hq
        · exact hok q hq
        · rw [List.mem_singleton.1 hq]
          unfold okM
          rw [← hsp, h1, h2]; rfl
  · refine ev_codeE hE 60 .ret (qsan E1 E2 (allE_cons hl allE_nil)) (show PatSt R ([].map markD) (inLive 0 [.mp 0, .mp 1]) Try.f32.ntmps ⟨[.map (mB qsks E1), .map (mB qsks E2)], [true], wrQ⟩ a0 Hr from hP) hBn fun a1 Hr1 w1 hP1 hB1 hS1 => ?_
    exact hend hP1 hB1 (hF0.step hS1 hwr) (by unfold eqM; rw [hl]; rfl)
theorem qsgood {R : Rws} (hR : RwOK R) : Good Try.prog R 32 (ctrQ qsks) := by
  refine ⟨enters_of Try.func32 (by kernel_rfl) rfl, fun args H v cs hv _ => ?_⟩
  obtain ⟨l1, l2, E1, E2, hl, rfl, h1, h2, rfl⟩ := ctrQ_inv hv
  refine ⟨.bool (eqM E1 E2), rfl, fun Hr Args ha hB hA w hO => ?_⟩
  obtain ⟨s1, s2, s3, s4⟩ := sub_mem (sel := [l1, l2]) (H' := [.map (mB qsks E1), .map (mB qsks E2)]) (by simp [nodupN, memN, hl]) (by simp [h1, h2, renI]) hB hA hO
  refine qsany hR E1 E2 _ w Args ?_ s1 s2 s3
  cases ha with | cons x1 ha => cases ha with | cons x2 ha =>
  cases ha
  obtain ⟨q1, e1, rfl⟩ := rel_mp x1
  obtain ⟨q2, e2, rfl⟩ := rel_mp x2
  exact .cons (.mp ((s4 0 l1 rfl).trans e1)) (.cons (.mp ((s4 1 l2 rfl).trans e2)) .nil)
end Go.Proofs.Ytjbleblllmbcbaa
