/- Copies of slices, as contracts of the evaluator. No condition. -/
import Derived.Test.YtcfomhnfhalmaaaEyV
set_option linter.unusedVariables false
set_option linter.unusedSimpArgs false
set_option maxRecDepth 100000
namespace Go.Proofs.Ytcfomhnfhalmaaa
open Go.RowKit

theorem allT_of : ∀ {cs : List Bool} {p : Prop}, (∀ c ∈ cs, c = true) → p → allT cs p
  | [], p, _, hp => hp
  | c :: r, p, h, hp => ⟨h c (by simp), allT_of (fun x hx => h x (by simp [hx])) hp⟩
theorem cloneF_inv {s : Nat} {e : TypeId} {R : Rws} {args : List AV} {H H' : Mem} {wr : Nat → Bool} {v : AV} {cs : List Bool} (h : cloneF s e R args H wr = some (v, H', cs)) : ∃ x m G cs', args = [x] ∧ newsA R H s x = some (m, G, cs') ∧ v = .gsl .top (H.length + 1) 0 m ∧ H' = H ++ [.gone, .row m s G e none] ∧ cs = decide (m ≤ 1000000) :: cs' := by
  rcases args with _ | ⟨x, _ | ⟨y, rest⟩⟩
  · cases h
  · simp only [cloneF] at h
    cases hn : newsA R H s x with
    | none => rw [hn] at h; cases h
    | some q =>
      obtain ⟨m, G, cs'⟩ := q
      rw [hn] at h; cases h
      exact ⟨x, m, G, cs', rfl, hn, rfl, rfl, rfl⟩
  · cases h
noncomputable def EV0 (R : Rws) : Env := ⟨Try.prog, eqsK Try.prog, R, fun _ => none, fun _ => none, fun _ => false, fun _ => false, fun _ => false⟩
theorem hEV0 {R : Rws} (hR : RwOK R) : EnvOK (EV0 R) := ⟨eqsK_ok, hR, fun f F h => (by cases h), fun f F h => (by cases h), rfl⟩
noncomputable def cvT : TypeId := Try.f35.params.toList.headD 0
noncomputable def cvE : TypeId := match Try.prog.underlying cvT with
  | some (.slice e) => e
  | _ => 0
noncomputable def cvB : Code := dropSeq 2 (Try.f35.body.getD .skip)
noncomputable def cvO : List Oper := regOps (sL cvB)
theorem cvn {R : Rws} (c : Nat) : Is (evCall (EV0 R) 60 35 [.raw (.slice none 0 c)] ⟨[], [], fun _ => true⟩ (fun v _ => v = .raw (.slice none 0 0))) := ev_eq [] (AV.raw (.slice none 0 0)) (by kernel_rfl) trivial
theorem cva {R : Rws} (H : Mem) (wr : Nat → Bool) (a : Addr) (n c : Nat) : ∀ r, Is (evCs (EV0 R) 60 (takeSeq 2 (Try.f35.body.getD .skip)) ⟨pat (inLive 0 [(.raw (.slice (some a) n c))]) r 0 Try.f35.ntmps, ⟨H, [], wr⟩⟩ (chK [(0, (.raw (.slice (some a) n c)))] Try.f35.ntmps H [])) := fun r => ev_eq [] (chR [(0, (.raw (.slice (some a) n c)))] Try.f35.ntmps H []) (by kernel_rfl) trivial
theorem cvb {R : Rws} (H : Mem) (wr : Nat → Bool) (V : Value) : ∀ r, Is (listP (EV0 R) (callWith (EV0 R) (evT (EV0 R) 60)) cvO (cvO.take 1) ⟨pat [(0, .raw V)] r 0 Try.f35.ntmps, ⟨H, [], wr⟩⟩ (chK [(0, .raw V), (5, .slice H.length 0 0 0)] Try.f35.ntmps (H ++ [AIt.cells [] cvE]) [] .normal)) := fun r => ev_eq [] (chR [(0, .raw V), (5, .slice H.length 0 0 0)] Try.f35.ntmps (H ++ [AIt.cells [] cvE]) []) (by kernel_rfl) trivial
theorem cvc {R : Rws} (H : Mem) (wr : Nat → Bool) (x : AV) (L : Nat) : ∀ r, Is (listP (EV0 R) (callWith (EV0 R) (evT (EV0 R) 60)) cvO ((cvO.drop 1).take 1) ⟨pat [(0, x), (5, .slice L 0 0 0)] r 0 Try.f35.ntmps, ⟨H, [], wr⟩⟩ (chK [(6, x), (5, .slice L 0 0 0)] Try.f35.ntmps H [] .normal)) := fun r => ev_eq [] (chR [(6, x), (5, .slice L 0 0 0)] Try.f35.ntmps H []) (by kernel_rfl) trivial
theorem cvap (R : Rws) (H : Mem) (x : AV) (L : Nat) : appendA Try.prog R H cvT (.slice L 0 0 0) x = (match newsA R H 5 x with
    | some (m, G, cs) => some (.newR m 5 G cvE (decide (m ≤ 1000000) :: cs))
    | none => none) := by kernel_rfl
theorem cvd {R : Rws} (H : Mem) (wr : Nat → Bool) (x : AV) (L : Nat) (r : Nat → Value) (K : ASt → Prop) : listP (EV0 R) (callWith (EV0 R) (evT (EV0 R) 60)) cvO ((cvO.drop 2).take 1) ⟨pat [(6, x), (5, .slice L 0 0 0)] r 0 Try.f35.ntmps, ⟨H, [], wr⟩⟩ K = (match appendA Try.prog R H cvT (.slice L 0 0 0) x with
    | some q => resP false q ((cvO.drop 2).headD ⟨none, .assign (.tmp 0), 0, "", #[], none⟩) ⟨pat [(6, x), (5, .slice L 0 0 0)] r 0 Try.f35.ntmps, ⟨H, [], wr⟩⟩ K
    | none => False) := by kernel_rfl
theorem cve {R : Rws} (H : Mem) (wr : Nat → Bool) (x : AV) (L m l : Nat) (G : Nat → List AV) (r : Nat → Value) : Is ((fun st : ASt => chK [(7, .gsl .top l 0 m)] Try.f35.ntmps (H ++ [.row m 5 G cvE none]) [] .normal st) ⟨putA (pat [(6, x), (5, .slice L 0 0 0)] r 0 Try.f35.ntmps) (some 7) (.gsl .top l 0 m), ⟨H ++ [.row m 5 G cvE none], [], wr⟩⟩) := ev_eq [] (chR [(7, .gsl .top l 0 m)] Try.f35.ntmps (H ++ [.row m 5 G cvE none]) []) (by kernel_rfl) trivial
theorem cvf {R : Rws} (H : Mem) (wr : Nat → Bool) (x : AV) : ∀ r, Is (listP (EV0 R) (callWith (EV0 R) (evT (EV0 R) 60)) cvO (((cvO.drop 2).drop 1).take 1) ⟨pat [(7, x)] r 0 Try.f35.ntmps, ⟨H, [], wr⟩⟩ (chK [(2, x)] Try.f35.ntmps H [] .normal)) := fun r => ev_eq [] (chR [(2, x)] Try.f35.ntmps H []) (by kernel_rfl) trivial
theorem cvz {R : Rws} (H : Mem) (wr : Nat → Bool) (x : AV) : ∀ r, Is (evT (EV0 R) 60 (.code (sR cvB)) ⟨pat [(2, x)] r 0 Try.f35.ntmps, ⟨H, [], wr⟩⟩ (chE .ret [(2, x)] Try.f35.ntmps H [])) := fun r => ev_eq [] (chR [(2, x)] Try.f35.ntmps H []) (by kernel_rfl) trivial
theorem cvany {R : Rws} (hR : RwOK R) (args : List AV) (H : Mem) (wr : Nat → Bool) (v : AV) (H' : Mem) (cs : List Bool) (hF : cloneF 5 cvE R args H wr = some (v, H', cs)) (hcs : ∀ c ∈ cs, c = true) (Hr : List RBlk) (w : World) (Args : List Value) (ha : RelL R (nums Hr) args Args) (hB : RelB R (nums Hr) H Hr) (hA : Apart H Hr) (hO : OwnK R H Hr w) :
    Calls Try.prog 35 Args.toArray w fun e w' => ∃ V Hr', e = .returned V ∧ Rel R (nums Hr') v V ∧ RelB R (nums Hr') H' Hr' ∧ Apart H' Hr' ∧ OwnK R H' Hr' w' ∧ Stp wr Hr w Hr' w' := by
  obtain ⟨x, m, G, cs', rfl, hn, rfl, rfl, rfl⟩ := cloneF_inv hF
  cases ha with | cons hx hnil =>
  cases hnil
  have hE := hEV0 hR
  obtain ⟨A, c, rfl, hA0⟩ := newsA_val hR hn hx
  cases A with
  | none =>
    obtain rfl := hA0 rfl
    refine (ev_calls_rd hE 60 (cvn c).is rfl (.cons .raw .nil) w (hO.2.sub (by simp))).mono fun e w' ⟨he, hb⟩ => ?_
    obtain ⟨Hr', h1, h2, h3, h4, h5⟩ := clone_nil (s := 5) (G := G) (e := cvE) (wr := wr) (by decide) rfl hB hA hO hb
    exact ⟨_, Hr', he, h1, h2, h3, h4, h5⟩
  | some a =>
    refine ev_enterH (E := (EV0 R)) (fn := Try.f35) (c := (Try.f35.body.getD .skip)) Try.func35 (by kernel_rfl) (args := [.raw (.slice (some a) m c)]) (show 1 ≤ Try.f35.ntmps by decide) (.cons .raw .nil) hB hA hO (ds := []) (wr := wr) fun a0 hP hBn => ?_
    refine ev_seqs hE 60 2 (cva H wr a m c) hP hBn fun a1 Hr1 w1 hP1 hB1 hS1 => ?_
    refine wp_parts (c := cvB) (by kernel_rfl) (wp_reg (by kernel_rfl) ?_)
    refine ev_ops hE 60 1 (ops := cvO) (l := cvO) (cvb H wr _) hP1 hB1 fun a2 Hr2 w2 hP2 hB2 hS2 => ?_
    have hS12 := hS1.trans hS2
    obtain ⟨σ, hσ, _⟩ := hS12.ext
    have hx2 : Rel R (nums Hr2) x (.slice (some a) m c) := by rw [hσ]; exact hx.grow σ
    have hP3 := PatSt.swap hP2 hx2
    refine ev_ops hE 60 1 (ops := cvO) (l := cvO.drop 1) (cvc (H ++ [AIt.cells [] cvE]) wr x H.length) hP3 hB2 fun a4 Hr4 w4 hP4 hB4 hS4 => ?_
    have hap : ∀ r, Is (listP (EV0 R) (callWith (EV0 R) (evT (EV0 R) 60)) cvO ((cvO.drop 2).take 1) ⟨pat [(6, x), (5, .slice H.length 0 0 0)] r 0 Try.f35.ntmps, ⟨(H ++ [AIt.cells [] cvE]), [], wr⟩⟩ (chK [(7, .gsl .top (H.length + 1) 0 m)] Try.f35.ntmps (H ++ [.cells [] cvE] ++ [.row m 5 G cvE none]) [] .normal)) := fun r => by
      constructor
      rw [cvd, cvap, newsA_grow hn]
      simp only [resP, cond_false]
      refine allT_of hcs ?_
      have hl : (H ++ [AIt.cells [] cvE]).length = H.length + 1 := by simp
      have := (cve (R := R) (H ++ [AIt.cells [] cvE]) wr x H.length m (H.length + 1) G r).is
      rw [← hl] at this ⊢
      exact this
    refine ev_ops hE 60 1 (ops := cvO) (l := cvO.drop 2) hap hP4 hB4 fun a5 Hr5 w5 hP5 hB5 hS5 => ?_
    refine ev_ops hE 60 1 (ops := cvO) (l := (cvO.drop 2).drop 1) (cvf (H ++ [.cells [] cvE] ++ [.row m 5 G cvE none]) wr _) hP5 hB5 fun a6 Hr6 w6 hP6 hB6 hS6 => ?_
    refine wpList_nil ?_
    refine ev_codeE hE 60 .ret (cvz (H ++ [.cells [] cvE] ++ [.row m 5 G cvE none]) wr _) hP6 hB6 fun a7 Hr7 w7 hP7 hB7 hS7 => ?_
    have hS := (((hS12.trans hS4).trans hS5).trans hS6).trans hS7
    obtain ⟨rr, vv, _, _, hBl, hAp⟩ := id hP7
    obtain ⟨g1, g2, g3⟩ := clone_end hBl hAp hB7.own.1
    refine ev_endH hE (r := .gsl .top (H.length + 1) 0 m) (fun rs => by kernel_rfl) hP7 hB7 (fun V hv => ⟨V, Hr7, rfl, hv, g1, g2, ⟨g3, hB7.own.2⟩, hS⟩) (.inl rfl)
noncomputable def ccT : TypeId := Try.f49.params.toList.headD 0
noncomputable def ccE : TypeId := match Try.prog.underlying ccT with
  | some (.slice e) => e
  | _ => 0
noncomputable def ccB : Code := dropSeq 2 (Try.f49.body.getD .skip)
noncomputable def ccO : List Oper := regOps (sL ccB)
theorem ccn {R : Rws} (c : Nat) : Is (evCall (EV0 R) 60 49 [.raw (.slice none 0 c)] ⟨[], [], fun _ => true⟩ (fun v _ => v = .raw (.slice none 0 0))) := ev_eq [] (AV.raw (.slice none 0 0)) (by kernel_rfl) trivial
theorem cca {R : Rws} (H : Mem) (wr : Nat → Bool) (a : Addr) (n c : Nat) : ∀ r, Is (evCs (EV0 R) 60 (takeSeq 2 (Try.f49.body.getD .skip)) ⟨pat (inLive 0 [(.raw (.slice (some a) n c))]) r 0 Try.f49.ntmps, ⟨H, [], wr⟩⟩ (chK [(0, (.raw (.slice (some a) n c)))] Try.f49.ntmps H [])) := fun r => ev_eq [] (chR [(0, (.raw (.slice (some a) n c)))] Try.f49.ntmps H []) (by kernel_rfl) trivial
theorem ccb {R : Rws} (H : Mem) (wr : Nat → Bool) (V : Value) : ∀ r, Is (listP (EV0 R) (callWith (EV0 R) (evT (EV0 R) 60)) ccO (ccO.take 1) ⟨pat [(0, .raw V)] r 0 Try.f49.ntmps, ⟨H, [], wr⟩⟩ (chK [(0, .raw V), (5, .slice H.length 0 0 0)] Try.f49.ntmps (H ++ [AIt.cells [] ccE]) [] .normal)) := fun r => ev_eq [] (chR [(0, .raw V), (5, .slice H.length 0 0 0)] Try.f49.ntmps (H ++ [AIt.cells [] ccE]) []) (by kernel_rfl) trivial
theorem ccc {R : Rws} (H : Mem) (wr : Nat → Bool) (x : AV) (L : Nat) : ∀ r, Is (listP (EV0 R) (callWith (EV0 R) (evT (EV0 R) 60)) ccO ((ccO.drop 1).take 1) ⟨pat [(0, x), (5, .slice L 0 0 0)] r 0 Try.f49.ntmps, ⟨H, [], wr⟩⟩ (chK [(6, x), (5, .slice L 0 0 0)] Try.f49.ntmps H [] .normal)) := fun r => ev_eq [] (chR [(6, x), (5, .slice L 0 0 0)] Try.f49.ntmps H []) (by kernel_rfl) trivial
theorem ccap (R : Rws) (H : Mem) (x : AV) (L : Nat) : appendA Try.prog R H ccT (.slice L 0 0 0) x = (match newsA R H 2 x with
    | some (m, G, cs) => some (.newR m 2 G ccE (decide (m ≤ 1000000) :: cs))
    | none => none) := by kernel_rfl
theorem ccd {R : Rws} (H : Mem) (wr : Nat → Bool) (x : AV) (L : Nat) (r : Nat → Value) (K : ASt → Prop) : listP (EV0 R) (callWith (EV0 R) (evT (EV0 R) 60)) ccO ((ccO.drop 2).take 1) ⟨pat [(6, x), (5, .slice L 0 0 0)] r 0 Try.f49.ntmps, ⟨H, [], wr⟩⟩ K = (match appendA Try.prog R H ccT (.slice L 0 0 0) x with
    | some q => resP false q ((ccO.drop 2).headD ⟨none, .assign (.tmp 0), 0, "", #[], none⟩) ⟨pat [(6, x), (5, .slice L 0 0 0)] r 0 Try.f49.ntmps, ⟨H, [], wr⟩⟩ K
    | none => False) := by kernel_rfl
theorem cce {R : Rws} (H : Mem) (wr : Nat → Bool) (x : AV) (L m l : Nat) (G : Nat → List AV) (r : Nat → Value) : Is ((fun st : ASt => chK [(7, .gsl .top l 0 m)] Try.f49.ntmps (H ++ [.row m 2 G ccE none]) [] .normal st) ⟨putA (pat [(6, x), (5, .slice L 0 0 0)] r 0 Try.f49.ntmps) (some 7) (.gsl .top l 0 m), ⟨H ++ [.row m 2 G ccE none], [], wr⟩⟩) := ev_eq [] (chR [(7, .gsl .top l 0 m)] Try.f49.ntmps (H ++ [.row m 2 G ccE none]) []) (by kernel_rfl) trivial
theorem ccf {R : Rws} (H : Mem) (wr : Nat → Bool) (x : AV) : ∀ r, Is (listP (EV0 R) (callWith (EV0 R) (evT (EV0 R) 60)) ccO (((ccO.drop 2).drop 1).take 1) ⟨pat [(7, x)] r 0 Try.f49.ntmps, ⟨H, [], wr⟩⟩ (chK [(2, x)] Try.f49.ntmps H [] .normal)) := fun r => ev_eq [] (chR [(2, x)] Try.f49.ntmps H []) (by kernel_rfl) trivial
theorem ccz {R : Rws} (H : Mem) (wr : Nat → Bool) (x : AV) : ∀ r, Is (evT (EV0 R) 60 (.code (sR ccB)) ⟨pat [(2, x)] r 0 Try.f49.ntmps, ⟨H, [], wr⟩⟩ (chE .ret [(2, x)] Try.f49.ntmps H [])) := fun r => ev_eq [] (chR [(2, x)] Try.f49.ntmps H []) (by kernel_rfl) trivial
theorem ccany {R : Rws} (hR : RwOK R) (args : List AV) (H : Mem) (wr : Nat → Bool) (v : AV) (H' : Mem) (cs : List Bool) (hF : cloneF 2 ccE R args H wr = some (v, H', cs)) (hcs : ∀ c ∈ cs, c = true) (Hr : List RBlk) (w : World) (Args : List Value) (ha : RelL R (nums Hr) args Args) (hB : RelB R (nums Hr) H Hr) (hA : Apart H Hr) (hO : OwnK R H Hr w) :
    Calls Try.prog 49 Args.toArray w fun e w' => ∃ V Hr', e = .returned V ∧ Rel R (nums Hr') v V ∧ RelB R (nums Hr') H' Hr' ∧ Apart H' Hr' ∧ OwnK R H' Hr' w' ∧ Stp wr Hr w Hr' w' := by
  obtain ⟨x, m, G, cs', rfl, hn, rfl, rfl, rfl⟩ := cloneF_inv hF
  cases ha with | cons hx hnil =>
  cases hnil
  have hE := hEV0 hR
  obtain ⟨A, c, rfl, hA0⟩ := newsA_val hR hn hx
  cases A with
  | none =>
    obtain rfl := hA0 rfl
    refine (ev_calls_rd hE 60 (ccn c).is rfl (.cons .raw .nil) w (hO.2.sub (by simp))).mono fun e w' ⟨he, hb⟩ => ?_
    obtain ⟨Hr', h1, h2, h3, h4, h5⟩ := clone_nil (s := 2) (G := G) (e := ccE) (wr := wr) (by decide) rfl hB hA hO hb
    exact ⟨_, Hr', he, h1, h2, h3, h4, h5⟩
  | some a =>
    refine ev_enterH (E := (EV0 R)) (fn := Try.f49) (c := (Try.f49.body.getD .skip)) Try.func49 (by kernel_rfl) (args := [.raw (.slice (some a) m c)]) (show 1 ≤ Try.f49.ntmps by decide) (.cons .raw .nil) hB hA hO (ds := []) (wr := wr) fun a0 hP hBn => ?_
    refine ev_seqs hE 60 2 (cca H wr a m c) hP hBn fun a1 Hr1 w1 hP1 hB1 hS1 => ?_
    refine wp_parts (c := ccB) (by kernel_rfl) (wp_reg (by kernel_rfl) ?_)
    refine ev_ops hE 60 1 (ops := ccO) (l := ccO) (ccb H wr _) hP1 hB1 fun a2 Hr2 w2 hP2 hB2 hS2 => ?_
    have hS12 := hS1.trans hS2
    obtain ⟨σ, hσ, _⟩ := hS12.ext
    have hx2 : Rel R (nums Hr2) x (.slice (some a) m c) := by rw [hσ]; exact hx.grow σ
    have hP3 := PatSt.swap hP2 hx2
    refine ev_ops hE 60 1 (ops := ccO) (l := ccO.drop 1) (ccc (H ++ [AIt.cells [] ccE]) wr x H.length) hP3 hB2 fun a4 Hr4 w4 hP4 hB4 hS4 => ?_
    have hap : ∀ r, Is (listP (EV0 R) (callWith (EV0 R) (evT (EV0 R) 60)) ccO ((ccO.drop 2).take 1) ⟨pat [(6, x), (5, .slice H.length 0 0 0)] r 0 Try.f49.ntmps, ⟨(H ++ [AIt.cells [] ccE]), [], wr⟩⟩ (chK [(7, .gsl .top (H.length + 1) 0 m)] Try.f49.ntmps (H ++ [.cells [] ccE] ++ [.row m 2 G ccE none]) [] .normal)) := fun r => by
      constructor
      rw [ccd, ccap, newsA_grow hn]
      simp only [resP, cond_false]
      refine allT_of hcs ?_
      have hl : (H ++ [AIt.cells [] ccE]).length = H.length + 1 := by simp
      have := (cce (R := R) (H ++ [AIt.cells [] ccE]) wr x H.length m (H.length + 1) G r).is
      rw [← hl] at this ⊢
      exact this
    refine ev_ops hE 60 1 (ops := ccO) (l := ccO.drop 2) hap hP4 hB4 fun a5 Hr5 w5 hP5 hB5 hS5 => ?_
    refine ev_ops hE 60 1 (ops := ccO) (l := (ccO.drop 2).drop 1) (ccf (H ++ [.cells [] ccE] ++ [.row m 2 G ccE none]) wr _) hP5 hB5 fun a6 Hr6 w6 hP6 hB6 hS6 => ?_
    refine wpList_nil ?_
    refine ev_codeE hE 60 .ret (ccz (H ++ [.cells [] ccE] ++ [.row m 2 G ccE none]) wr _) hP6 hB6 fun a7 Hr7 w7 hP7 hB7 hS7 => ?_
    have hS := (((hS12.trans hS4).trans hS5).trans hS6).trans hS7
    obtain ⟨rr, vv, _, _, hBl, hAp⟩ := id hP7
    obtain ⟨g1, g2, g3⟩ := clone_end hBl hAp hB7.own.1
    refine ev_endH hE (r := .gsl .top (H.length + 1) 0 m) (fun rs => by kernel_rfl) hP7 hB7 (fun V hv => ⟨V, Hr7, rfl, hv, g1, g2, ⟨g3, hB7.own.2⟩, hS⟩) (.inl rfl)
end Go.Proofs.Ytcfomhnfhalmaaa
