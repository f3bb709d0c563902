/- Parts of a proof, merged: StackX3 EyWp EyX StackX4 EyRt StackY0 StackYc StackYg StackYe StackZc StackYr StackYd StackU StackZd StackPd StackPl StackN StackPm. No condition. -/
import Derived.Test.YtcfomhnfhalmaaaSCo5
section
set_option linter.unusedVariables false
set_option linter.unusedSimpArgs false
set_option maxRecDepth 100000
namespace Go.Proofs.Ytcfomhnfhalmaaa
open Go.RowKit

theorem ragg_a (R : Rws) (L M : List V5) (up : BitVec 64) : ∀ r, Is (evT (EG R false tabS []) 60 (.code (sL (Try.f34.body.getD .skip))) ⟨pat [(0, .gsl .any 0 0 L.length), (1, .gsl .any 1 0 M.length), (2, .bv .u64 up)] r 0 Try.f34.ntmps, ⟨[.row L.length 5 (F5 L) cvE none, .row M.length 5 (F5 M) cvE none], [], (newW 2)⟩⟩ (selK [0, 1] .normal [(0, .gsl .any 0 0 (List.length L)), (1, .gsl .any 1 0 (List.length M)), (2, .bv .u64 up)] Try.f34.ntmps [AIt.row (List.length L) 5 (F5 L) cvE none, AIt.row (List.length M) 5 (F5 M) cvE none])) := fun r => ev_selQ (by kernel_rfl)
theorem ragg_b (R : Rws) (L M : List V5) (up : BitVec 64) (h : AllE [((↑(List.length L) : Int) != (↑(List.length M) : Int), true)]) : ∀ r, Is (evT (EG R false tabS []) 60 (.code (sL (sR (Try.f34.body.getD .skip)))) ⟨pat [(0, .gsl .any 0 0 L.length), (1, .gsl .any 1 0 M.length), (2, .bv .u64 up)] r 0 Try.f34.ntmps, ⟨[.row L.length 5 (F5 L) cvE none, .row M.length 5 (F5 M) cvE none], [true], (newW 2)⟩⟩ (selK [0, 1] .ret [(6, .bool true false)] Try.f34.ntmps [AIt.row (List.length L) 5 (F5 L) cvE none, AIt.row (List.length M) 5 (F5 M) cvE none])) := fun r => ev_selP (by kernel_rfl) h
theorem ragg_c (R : Rws) (L M : List V5) (up : BitVec 64) (h : AllE [((↑(List.length L) : Int) != (↑(List.length M) : Int), false)]) : ∀ r, Is (evT (EG R false tabS []) 60 (.code (sL (sR (Try.f34.body.getD .skip)))) ⟨pat [(0, .gsl .any 0 0 L.length), (1, .gsl .any 1 0 M.length), (2, .bv .u64 up)] r 0 Try.f34.ntmps, ⟨[.row L.length 5 (F5 L) cvE none, .row M.length 5 (F5 M) cvE none], [false], (newW 2)⟩⟩ (selK [0, 1] .normal [(0, .gsl .any 0 0 (List.length L)), (1, .gsl .any 1 0 (List.length M)), (2, .bv .u64 up)] Try.f34.ntmps [AIt.row (List.length L) 5 (F5 L) cvE none, AIt.row (List.length M) 5 (F5 M) cvE none])) := fun r => ev_selP (by kernel_rfl) h
theorem ragg_d (R : Rws) (L M : List V5) (up : BitVec 64) : ∀ r, Is (evT (EG R false tabS []) 60 (.code (sL (sL (sR (sR (Try.f34.body.getD .skip)))))) ⟨pat [(0, .gsl .any 0 0 L.length), (1, .gsl .any 1 0 M.length), (2, .bv .u64 up)] r 0 Try.f34.ntmps, ⟨[.row L.length 5 (F5 L) cvE none, .row M.length 5 (F5 M) cvE none], [], (newW 2)⟩⟩ (selK [0, 1] .normal [(0, .gsl .any 0 0 (List.length L)), (1, .gsl .any 1 0 (List.length M)), (2, .bv .u64 up), (7, .int .i64 true 0)] Try.f34.ntmps [AIt.row (List.length L) 5 (F5 L) cvE none, AIt.row (List.length M) 5 (F5 M) cvE none])) := fun r => ev_selQ (by kernel_rfl)
theorem ragg_l (R : Rws) (L M : List V5) (up : BitVec 64) (k : Int) (h : AllE [(decide (k < (↑(List.length L) : Int)), true), (decide (0 ≤ k ∧ k < (↑(List.length L) : Int)), true), (decide (0 ≤ (↑0 : Int) + k ∧ (↑0 : Int) + k < (↑(List.length L) : Int)), true), (decide (0 ≤ k ∧ k < (↑(List.length M) : Int)), true), (decide (0 ≤ (↑0 : Int) + k ∧ (↑0 : Int) + k < (↑(List.length M) : Int)), true), (!sameB { a := V5.a (List.getD L (Int.toNat ((↑0 : Int) + k)) z5), b := V5.b (List.getD L (Int.toNat ((↑0 : Int) + k)) z5), c := V5.c (List.getD L (Int.toNat ((↑0 : Int) + k)) z5), d := V5.d (List.getD L (Int.toNat ((↑0 : Int) + k)) z5), l := V5.l (List.getD L (Int.toNat ((↑0 : Int) + k)) z5) } { a := V5.a (List.getD M (Int.toNat ((↑0 : Int) + k)) z5), b := V5.b (List.getD M (Int.toNat ((↑0 : Int) + k)) z5), c := V5.c (List.getD M (Int.toNat ((↑0 : Int) + k)) z5), d := V5.d (List.getD M (Int.toNat ((↑0 : Int) + k)) z5), l := V5.l (List.getD M (Int.toNat ((↑0 : Int) + k)) z5) } up, false)]) : ∀ r, Is (evT (EG R false tabS []) 60 (.code (lpB (bkB (sR (sL (sR (sR (Try.f34.body.getD .skip)))))))) ⟨pat [(0, .gsl .any 0 0 L.length), (1, .gsl .any 1 0 M.length), (2, .bv .u64 up), (7, .int .i64 false (k))] r 0 Try.f34.ntmps, ⟨[.row L.length 5 (F5 L) cvE none, .row M.length 5 (F5 M) cvE none], [true, false], (newW 2)⟩⟩ (selK [0, 1] .normal [(0, .gsl .any 0 0 (List.length L)), (1, .gsl .any 1 0 (List.length M)), (2, .bv .u64 up), (7, .int .i64 false (IntKind.wrap .i64 (k + 1)))] Try.f34.ntmps [AIt.row (List.length L) 5 (F5 L) cvE none, AIt.row (List.length M) 5 (F5 M) cvE none])) := fun r => ev_selP (by kernel_rfl) h
theorem ragg_r (R : Rws) (L M : List V5) (up : BitVec 64) (k : Int) (h : AllE [(decide (k < (↑(List.length L) : Int)), true), (decide (0 ≤ k ∧ k < (↑(List.length L) : Int)), true), (decide (0 ≤ (↑0 : Int) + k ∧ (↑0 : Int) + k < (↑(List.length L) : Int)), true), (decide (0 ≤ k ∧ k < (↑(List.length M) : Int)), true), (decide (0 ≤ (↑0 : Int) + k ∧ (↑0 : Int) + k < (↑(List.length M) : Int)), true), (!sameB { a := V5.a (List.getD L (Int.toNat ((↑0 : Int) + k)) z5), b := V5.b (List.getD L (Int.toNat ((↑0 : Int) + k)) z5), c := V5.c (List.getD L (Int.toNat ((↑0 : Int) + k)) z5), d := V5.d (List.getD L (Int.toNat ((↑0 : Int) + k)) z5), l := V5.l (List.getD L (Int.toNat ((↑0 : Int) + k)) z5) } { a := V5.a (List.getD M (Int.toNat ((↑0 : Int) + k)) z5), b := V5.b (List.getD M (Int.toNat ((↑0 : Int) + k)) z5), c := V5.c (List.getD M (Int.toNat ((↑0 : Int) + k)) z5), d := V5.d (List.getD M (Int.toNat ((↑0 : Int) + k)) z5), l := V5.l (List.getD M (Int.toNat ((↑0 : Int) + k)) z5) } up, true)]) : ∀ r, Is (evT (EG R false tabS []) 60 (.code (lpB (bkB (sR (sL (sR (sR (Try.f34.body.getD .skip)))))))) ⟨pat [(0, .gsl .any 0 0 L.length), (1, .gsl .any 1 0 M.length), (2, .bv .u64 up), (7, .int .i64 false (k))] r 0 Try.f34.ntmps, ⟨[.row L.length 5 (F5 L) cvE none, .row M.length 5 (F5 M) cvE none], [true, true], (newW 2)⟩⟩ (selK [0, 1] .ret [(6, .bool true false)] Try.f34.ntmps [AIt.row (List.length L) 5 (F5 L) cvE none, AIt.row (List.length M) 5 (F5 M) cvE none])) := fun r => ev_selP (by kernel_rfl) h
theorem ragg_x (R : Rws) (L M : List V5) (up : BitVec 64) (k : Int) (h : AllE [(decide (k < (↑(List.length L) : Int)), false)]) : ∀ r, Is (evT (EG R false tabS []) 60 (.code (lpB (bkB (sR (sL (sR (sR (Try.f34.body.getD .skip)))))))) ⟨pat [(0, .gsl .any 0 0 L.length), (1, .gsl .any 1 0 M.length), (2, .bv .u64 up), (7, .int .i64 false (k))] r 0 Try.f34.ntmps, ⟨[.row L.length 5 (F5 L) cvE none, .row M.length 5 (F5 M) cvE none], [false], (newW 2)⟩⟩ (selK [0, 1] (.exit 0) [] Try.f34.ntmps [AIt.row (List.length L) 5 (F5 L) cvE none, AIt.row (List.length M) 5 (F5 M) cvE none])) := fun r => ev_selP (by kernel_rfl) h
theorem ragg_z (R : Rws) (L M : List V5) (up : BitVec 64) : ∀ r, Is (evT (EG R false tabS []) 60 (.code (sR (sR (sR (Try.f34.body.getD .skip))))) ⟨pat [] r 0 Try.f34.ntmps, ⟨[.row L.length 5 (F5 L) cvE none, .row M.length 5 (F5 M) cvE none], [], (newW 2)⟩⟩ (selK [0, 1] .ret [(6, .bool true true)] Try.f34.ntmps [AIt.row (List.length L) 5 (F5 L) cvE none, AIt.row (List.length M) 5 (F5 M) cvE none])) := fun r => ev_selQ (by kernel_rfl)
noncomputable def raGGS (L M : List V5) : SmP
  | [.gsl _ 0 0 m, .gsl _ 1 0 n, u], [.row N 5 F e none, .row N' 5 F' e' none] => match labA u with
    | some (_, up, cs) => some (.bool false (alikeB L M up), rowIs F m L :: decide (m ≤ N) :: decide (e = cvE) :: rowIs F' n M :: decide (n ≤ N') :: decide (e' = cvE) :: decide (m ≤ 1000000) :: cs)
    | none => none
  | _, _ => none
set_option maxHeartbeats 1000000 in
theorem raGGS_ok {R : Rws} (hR : RwOK R) (hRp : ∀ j r, R j = some r → 0 < r.n → 0 < (r.V 0).length) (L M : List V5) : GoodP Try.prog R 34 (raGGS L M) := by
  refine ⟨enters_of Try.func34 (by kernel_rfl) rfl, fun args H v cs h hcs => ?_⟩
  unfold raGGS at h
  split at h
  case h_2 => cases h
  rename_i k m k' n u N F e N' F' e'
  split at h
  case h_2 => cases h
  rename_i ll up cs0 hu
  cases h
  simp only [List.mem_cons, forall_eq_or_imp] at hcs
  obtain ⟨x1, x2, x3, y1, y2, y3, z1, hcu⟩ := hcs
  have z1 := of_decide_eq_true z1
  have x2 := of_decide_eq_true x2
  have x3 := of_decide_eq_true x3
  obtain ⟨d1, d2⟩ := rowIs_spec x1
  have y2 := of_decide_eq_true y2
  have y3 := of_decide_eq_true y3
  obtain ⟨d3, d4⟩ := rowIs_spec y1
  subst d1
  subst x3
  subst d3
  subst y3
  refine ⟨_, rfl, fun Hr w Args hA hB hn hO => ?_⟩
  have hE := EG_ok (R := R) (T := tabS) hR false tabS_ok goodM_nil
  refine ev_enterH (E := EG R false tabS []) (fn := Try.f34) (c := (Try.f34.body.getD .skip)) Try.func34 (by kernel_rfl) (args := [.gsl k 0 0 L.length, .gsl k' 1 0 M.length, u]) (show 3 ≤ Try.f34.ntmps by decide) hA hB hn hO (ds := []) (wr := (newW 2)) fun a0 hP0' hB0' => ?_
  have hl3 : Hr.length = 2 := hB.1
  have hW : wkM [.row N 5 F cvE none, .row N' 5 F' cvE none] [.row L.length 5 (F5 L) cvE none, .row M.length 5 (F5 M) cvE none] := ⟨⟨x2, rfl, rfl, rfl, d2⟩, ⟨y2, rfl, rfl, rfl, d4⟩, trivial⟩
  have hP0 := hP0'.wk (live' := [(0, .gsl .any 0 0 L.length), (1, .gsl .any 1 0 M.length), (2, .bv .u64 up)]) (ds' := []) (wr' := (newW 2)) ⟨rfl, wkA_any, rfl, wkA_any, rfl, labA_wk hu hcu, trivial⟩ hW
  have hB0 := hB0'.wk hW
  refine wp_parts (by kernel_rfl) (ev_codeWS hE 60 [0, 1] .normal (by decide) (by rfl) (ragg_a R L M up) (wkV.refl _) (wkM.refl _) hP0 hB0 fun a1 Hr1 w1 hP1 hB1 hT1 => ?_)
  by_cases hlen : L.length = M.length
  case neg =>
    refine wp_parts (by kernel_rfl) (ev_codeWS hE 60 [0, 1] .ret (by decide) (by rfl) (ragg_b R L M up (allE_cons (by simp only [bne_iff_ne, ne_eq]; omega) allE_nil)) (wkV.refl _) (wkM.refl _) hP1 hB1 fun a2 Hr2 w2 hP2 hB2 hT2 => ?_)
    have ha : alikeB L M up = false := by simp [alikeB, hlen]
    rw [ha]
    exact ev_endD hE (Ds := []) (Hr0 := Hr) (vs := [.bool true false]) (fun rs => by kernel_rfl) rfl hRp hP2 hB2 (by rw [hl3]; exact hT1.trans hT2) (fun D hD => by cases hD) (.inl rfl)
  refine wp_parts (by kernel_rfl) (ev_codeWS hE 60 [0, 1] .normal (by decide) (by rfl) (ragg_c R L M up (allE_cons (by rw [hlen]; simp) allE_nil)) (wkV.refl _) (wkM.refl _) hP1 hB1 fun a2 Hr2 w2 hP2 hB2 hT2 => ?_)
  refine wp_parts (by kernel_rfl) (wp_parts (by kernel_rfl) (ev_codeWS hE 60 [0, 1] .normal (by decide) (by rfl) (ragg_d R L M up) (live'' := [(0, .gsl .any 0 0 L.length), (1, .gsl .any 1 0 M.length), (2, .bv .u64 up), (7, .int .i64 false (((0 : Nat) : Int)))]) ⟨rfl, wkA.refl _, rfl, wkA.refl _, rfl, wkA.refl _, rfl, wkA_int, trivial⟩ (wkM.refl _) hP2 hB2 fun a3 Hr3 w3 hP3 hB3 hT3 => ?_))
  refine wp_bk (by kernel_rfl) ?_
  have hstep : ∀ k, k < L.length → sameB (L.getD k z5) (M.getD k z5) up = true → ∀ a2 Hr2 w2 (Q' : Exit → Act → World → Prop), PatSt R ([].map markD) [(0, .gsl .any 0 0 L.length), (1, .gsl .any 1 0 M.length), (2, .bv .u64 up), (7, .int .i64 false ((k : Int)))] Try.f34.ntmps ⟨[.row L.length 5 (F5 L) cvE none, .row M.length 5 (F5 M) cvE none], [], allW⟩ a2 Hr2 → Bun R [] 0 w [.row L.length 5 (F5 L) cvE none, .row M.length 5 (F5 M) cvE none] Hr2 w2 → Stp (newW 2) Hr w Hr2 w2 → (∀ a' Hr' w', PatSt R ([].map markD) [(0, .gsl .any 0 0 L.length), (1, .gsl .any 1 0 M.length), (2, .bv .u64 up), (7, .int .i64 false (((k + 1 : Nat) : Int)))] Try.f34.ntmps ⟨[.row L.length 5 (F5 L) cvE none, .row M.length 5 (F5 M) cvE none], [], allW⟩ a' Hr' → Bun R [] 0 w [.row L.length 5 (F5 L) cvE none, .row M.length 5 (F5 M) cvE none] Hr' w' → Stp (newW 2) Hr w Hr' w' → Q' .normal a' w') → Code.wp Try.prog (lpB (bkB (sR (sL (sR (sR (Try.f34.body.getD .skip))))))) Q' a2 w2 := fun k hk hs a2 Hr2 w2 Q' hP2 hB2 hI hnx => by
    have e1 : ((0 : Int) + (k : Int)).toNat = k := by omega
    have e2 : ((k : Int)).toNat = k := by omega
    refine ev_codeWS hE 60 [0, 1] .normal (by decide) (by rfl) (ragg_l R L M up (k : Int) (allE_cons (by first | exact decide_eq_true (by omega) | exact decide_eq_true (by simp only [List.length_map, List.length_range]; omega)) (allE_cons (by first | exact decide_eq_true (by omega) | exact decide_eq_true (by simp only [List.length_map, List.length_range]; omega)) (allE_cons (by first | exact decide_eq_true (by omega) | exact decide_eq_true (by simp only [List.length_map, List.length_range]; omega)) (allE_cons (by first | exact decide_eq_true (by omega) | exact decide_eq_true (by simp only [List.length_map, List.length_range]; omega)) (allE_cons (by first | exact decide_eq_true (by omega) | exact decide_eq_true (by simp only [List.length_map, List.length_range]; omega)) (allE_cons (by simp only [e1, e2]; simpa using hs) allE_nil))))))) (live'' := [(0, .gsl .any 0 0 L.length), (1, .gsl .any 1 0 M.length), (2, .bv .u64 up), (7, .int .i64 false (((k + 1 : Nat) : Int)))]) ⟨rfl, wkA.refl _, rfl, wkA.refl _, rfl, wkA.refl _, rfl, wkA_intE (by rw [IntKind.wrap_i64]; omega), trivial⟩ (wkM.refl _) hP2 hB2 fun a3 Hr3 w3 hP3 hB3 hT3 => ?_
    exact hnx _ _ _ hP3 hB3 (hI.trans hT3)
  rcases first_no (fun i => sameB (L.getD i z5) (M.getD i z5) up) L.length with hall | ⟨j, hj, hno, hbef⟩
  · refine ev_loopI (by kernel_rfl) (fun Hr' w' => Stp (newW 2) Hr w Hr' w') L.length (.exit 0) rfl (fun k : Nat => [(0, .gsl .any 0 0 L.length), (1, .gsl .any 1 0 M.length), (2, .bv .u64 up), (7, .int .i64 false ((k : Int)))]) (fun _ => [.row L.length 5 (F5 L) cvE none, .row M.length 5 (F5 M) cvE none]) (live' := []) (H' := [.row L.length 5 (F5 L) cvE none, .row M.length 5 (F5 M) cvE none]) (fun k hk a2 Hr2 w2 Q' hP2 hB2 hI hnx => hstep k hk (hall k hk) a2 Hr2 w2 Q' hP2 hB2 hI hnx) (fun a2 Hr2 w2 Q' hP2 hB2 hI hnx => ?_) hP3 hB3 ((hT1.trans hT2).trans hT3) fun a3 Hr3 w3 hP3 hB3 hI => ?_
    · refine ev_codeWS hE 60 [0, 1] (.exit 0) (by decide) (by rfl) (ragg_x R L M up (L.length : Int) (allE_cons (by first | exact decide_eq_false (by omega) | exact decide_eq_false (by simp only [List.length_map, List.length_range]; omega)) allE_nil)) (wkV.refl _) (wkM.refl _) hP2 hB2 fun a3 Hr3 w3 hP3 hB3 hT3 => ?_
      exact hnx _ _ _ hP3 hB3 (hI.trans hT3)
    refine ev_codeWS hE 60 [0, 1] .ret (by decide) (by rfl) (ragg_z R L M up) (wkV.refl _) (wkM.refl _) hP3 hB3 fun a4 Hr4 w4 hP4 hB4 hT4 => ?_
    have ha : alikeB L M up = true := by
      unfold alikeB
      rw [Bool.and_eq_true, decide_eq_true_eq, List.all_eq_true]
      exact ⟨hlen, fun i hi => hall i (List.mem_range.1 hi)⟩
    rw [ha]
    exact ev_endD hE (Ds := []) (Hr0 := Hr) (vs := [.bool true true]) (fun rs => by kernel_rfl) rfl hRp hP4 hB4 (by rw [hl3]; exact hI.trans hT4) (fun D hD => by cases hD) (.inl rfl)
  · refine ev_loopI (by kernel_rfl) (fun Hr' w' => Stp (newW 2) Hr w Hr' w') j .ret rfl (fun k : Nat => [(0, .gsl .any 0 0 L.length), (1, .gsl .any 1 0 M.length), (2, .bv .u64 up), (7, .int .i64 false ((k : Int)))]) (fun _ => [.row L.length 5 (F5 L) cvE none, .row M.length 5 (F5 M) cvE none]) (live' := [(6, .bool true false)]) (H' := [.row L.length 5 (F5 L) cvE none, .row M.length 5 (F5 M) cvE none]) (fun k hk a2 Hr2 w2 Q' hP2 hB2 hI hnx => hstep k (by omega) (hbef k hk) a2 Hr2 w2 Q' hP2 hB2 hI hnx) (fun a2 Hr2 w2 Q' hP2 hB2 hI hnx => ?_) hP3 hB3 ((hT1.trans hT2).trans hT3) fun a3 Hr3 w3 hP3 hB3 hI => ?_
    · have e1 : ((0 : Int) + (j : Int)).toNat = j := by omega
      have e2 : ((j : Int)).toNat = j := by omega
      have hno : sameB (L.getD j z5) (M.getD j z5) up = false := hno
      refine ev_codeWS hE 60 [0, 1] .ret (by decide) (by rfl) (ragg_r R L M up (j : Int) (allE_cons (by first | exact decide_eq_true (by omega) | exact decide_eq_true (by simp only [List.length_map, List.length_range]; omega)) (allE_cons (by first | exact decide_eq_true (by omega) | exact decide_eq_true (by simp only [List.length_map, List.length_range]; omega)) (allE_cons (by first | exact decide_eq_true (by omega) | exact decide_eq_true (by simp only [List.length_map, List.length_range]; omega)) (allE_cons (by first | exact decide_eq_true (by omega) | exact decide_eq_true (by simp only [List.length_map, List.length_range]; omega)) (allE_cons (by first | exact decide_eq_true (by omega) | exact decide_eq_true (by simp only [List.length_map, List.length_range]; omega)) (allE_cons (by simp only [e1, e2]; simpa using hno) allE_nil))))))) (wkV.refl _) (wkM.refl _) hP2 hB2 fun a3 Hr3 w3 hP3 hB3 hT3 => ?_
      exact hnx _ _ _ hP3 hB3 (hI.trans hT3)
    have ha : alikeB L M up = false := by
      unfold alikeB
      rw [Bool.and_eq_false_iff]
      refine .inr (List.all_eq_false.2 ⟨j, List.mem_range.2 hj, by simp only [hno]; decide⟩)
    rw [ha]
    exact ev_endD hE (Ds := []) (Hr0 := Hr) (vs := [.bool true false]) (fun rs => by kernel_rfl) rfl hRp hP3 hB3 (by rw [hl3]; exact hI) (fun D hD => by cases hD) (.inl rfl)
theorem rarg_a (A0 : Option Addr) (Rt : List RowI) (c : Nat) (L M : List V5) (up : BitVec 64) : ∀ r, Is (evT (EG (rws (mkRow A0 L.length 5 (F5 L) :: Rt)) false tabS []) 60 (.code (sL (Try.f34.body.getD .skip))) ⟨pat [(0, .rsl 0 L.length c), (1, .gsl .any 0 0 M.length), (2, .bv .u64 up)] r 0 Try.f34.ntmps, ⟨[.row M.length 5 (F5 M) cvE none], [], (newW 1)⟩⟩ (selK [0] .normal [(0, .rsl 0 (List.length L) c), (1, .gsl .any 0 0 (List.length M)), (2, .bv .u64 up)] Try.f34.ntmps [AIt.row (List.length M) 5 (F5 M) cvE none])) := fun r => ev_selQ (by kernel_rfl)
theorem rarg_b (A0 : Option Addr) (Rt : List RowI) (c : Nat) (L M : List V5) (up : BitVec 64) (h : AllE [((↑(List.length L) : Int) != (↑(List.length M) : Int), true)]) : ∀ r, Is (evT (EG (rws (mkRow A0 L.length 5 (F5 L) :: Rt)) false tabS []) 60 (.code (sL (sR (Try.f34.body.getD .skip)))) ⟨pat [(0, .rsl 0 L.length c), (1, .gsl .any 0 0 M.length), (2, .bv .u64 up)] r 0 Try.f34.ntmps, ⟨[.row M.length 5 (F5 M) cvE none], [true], (newW 1)⟩⟩ (selK [0] .ret [(6, .bool true false)] Try.f34.ntmps [AIt.row (List.length M) 5 (F5 M) cvE none])) := fun r => ev_selP (by kernel_rfl) h
theorem rarg_c (A0 : Option Addr) (Rt : List RowI) (c : Nat) (L M : List V5) (up : BitVec 64) (h : AllE [((↑(List.length L) : Int) != (↑(List.length M) : Int), false)]) : ∀ r, Is (evT (EG (rws (mkRow A0 L.length 5 (F5 L) :: Rt)) false tabS []) 60 (.code (sL (sR (Try.f34.body.getD .skip)))) ⟨pat [(0, .rsl 0 L.length c), (1, .gsl .any 0 0 M.length), (2, .bv .u64 up)] r 0 Try.f34.ntmps, ⟨[.row M.length 5 (F5 M) cvE none], [false], (newW 1)⟩⟩ (selK [0] .normal [(0, .rsl 0 (List.length L) c), (1, .gsl .any 0 0 (List.length M)), (2, .bv .u64 up)] Try.f34.ntmps [AIt.row (List.length M) 5 (F5 M) cvE none])) := fun r => ev_selP (by kernel_rfl) h
theorem rarg_d (A0 : Option Addr) (Rt : List RowI) (c : Nat) (L M : List V5) (up : BitVec 64) : ∀ r, Is (evT (EG (rws (mkRow A0 L.length 5 (F5 L) :: Rt)) false tabS []) 60 (.code (sL (sL (sR (sR (Try.f34.body.getD .skip)))))) ⟨pat [(0, .rsl 0 L.length c), (1, .gsl .any 0 0 M.length), (2, .bv .u64 up)] r 0 Try.f34.ntmps, ⟨[.row M.length 5 (F5 M) cvE none], [], (newW 1)⟩⟩ (selK [0] .normal [(0, .rsl 0 (List.length L) c), (1, .gsl .any 0 0 (List.length M)), (2, .bv .u64 up), (7, .int .i64 true 0)] Try.f34.ntmps [AIt.row (List.length M) 5 (F5 M) cvE none])) := fun r => ev_selQ (by kernel_rfl)
theorem rarg_l (A0 : Option Addr) (Rt : List RowI) (c : Nat) (L M : List V5) (up : BitVec 64) (k : Int) (h : AllE [(decide (k < (↑(List.length L) : Int)), true), (decide (0 ≤ k ∧ k < (↑(List.length L) : Int)), true), (decide (0 ≤ k ∧ k < (↑(List.length M) : Int)), true), (decide (0 ≤ (↑0 : Int) + k ∧ (↑0 : Int) + k < (↑(List.length M) : Int)), true), (!sameB { a := V5.a (List.getD L (Int.toNat k) z5), b := V5.b (List.getD L (Int.toNat k) z5), c := V5.c (List.getD L (Int.toNat k) z5), d := V5.d (List.getD L (Int.toNat k) z5), l := V5.l (List.getD L (Int.toNat k) z5) } { a := V5.a (List.getD M (Int.toNat ((↑0 : Int) + k)) z5), b := V5.b (List.getD M (Int.toNat ((↑0 : Int) + k)) z5), c := V5.c (List.getD M (Int.toNat ((↑0 : Int) + k)) z5), d := V5.d (List.getD M (Int.toNat ((↑0 : Int) + k)) z5), l := V5.l (List.getD M (Int.toNat ((↑0 : Int) + k)) z5) } up, false)]) : ∀ r, Is (evT (EG (rws (mkRow A0 L.length 5 (F5 L) :: Rt)) false tabS []) 60 (.code (lpB (bkB (sR (sL (sR (sR (Try.f34.body.getD .skip)))))))) ⟨pat [(0, .rsl 0 L.length c), (1, .gsl .any 0 0 M.length), (2, .bv .u64 up), (7, .int .i64 false (k))] r 0 Try.f34.ntmps, ⟨[.row M.length 5 (F5 M) cvE none], [true, false], (newW 1)⟩⟩ (selK [0] .normal [(0, .rsl 0 (List.length L) c), (1, .gsl .any 0 0 (List.length M)), (2, .bv .u64 up), (7, .int .i64 false (IntKind.wrap .i64 (k + 1)))] Try.f34.ntmps [AIt.row (List.length M) 5 (F5 M) cvE none])) := fun r => ev_selP (by kernel_rfl) h
theorem rarg_r (A0 : Option Addr) (Rt : List RowI) (c : Nat) (L M : List V5) (up : BitVec 64) (k : Int) (h : AllE [(decide (k < (↑(List.length L) : Int)), true), (decide (0 ≤ k ∧ k < (↑(List.length L) : Int)), true), (decide (0 ≤ k ∧ k < (↑(List.length M) : Int)), true), (decide (0 ≤ (↑0 : Int) + k ∧ (↑0 : Int) + k < (↑(List.length M) : Int)), true), (!sameB { a := V5.a (List.getD L (Int.toNat k) z5), b := V5.b (List.getD L (Int.toNat k) z5), c := V5.c (List.getD L (Int.toNat k) z5), d := V5.d (List.getD L (Int.toNat k) z5), l := V5.l (List.getD L (Int.toNat k) z5) } { a := V5.a (List.getD M (Int.toNat ((↑0 : Int) + k)) z5), b := V5.b (List.getD M (Int.toNat ((↑0 : Int) + k)) z5), c := V5.c (List.getD M (Int.toNat ((↑0 : Int) + k)) z5), d := V5.d (List.getD M (Int.toNat ((↑0 : Int) + k)) z5), l := V5.l (List.getD M (Int.toNat ((↑0 : Int) + k)) z5) } up, true)]) : ∀ r, Is (evT (EG (rws (mkRow A0 L.length 5 (F5 L) :: Rt)) false tabS []) 60 (.code (lpB (bkB (sR (sL (sR (sR (Try.f34.body.getD .skip)))))))) ⟨pat [(0, .rsl 0 L.length c), (1, .gsl .any 0 0 M.length), (2, .bv .u64 up), (7, .int .i64 false (k))] r 0 Try.f34.ntmps, ⟨[.row M.length 5 (F5 M) cvE none], [true, true], (newW 1)⟩⟩ (selK [0] .ret [(6, .bool true false)] Try.f34.ntmps [AIt.row (List.length M) 5 (F5 M) cvE none])) := fun r => ev_selP (by kernel_rfl) h
theorem rarg_x (A0 : Option Addr) (Rt : List RowI) (c : Nat) (L M : List V5) (up : BitVec 64) (k : Int) (h : AllE [(decide (k < (↑(List.length L) : Int)), false)]) : ∀ r, Is (evT (EG (rws (mkRow A0 L.length 5 (F5 L) :: Rt)) false tabS []) 60 (.code (lpB (bkB (sR (sL (sR (sR (Try.f34.body.getD .skip)))))))) ⟨pat [(0, .rsl 0 L.length c), (1, .gsl .any 0 0 M.length), (2, .bv .u64 up), (7, .int .i64 false (k))] r 0 Try.f34.ntmps, ⟨[.row M.length 5 (F5 M) cvE none], [false], (newW 1)⟩⟩ (selK [0] (.exit 0) [] Try.f34.ntmps [AIt.row (List.length M) 5 (F5 M) cvE none])) := fun r => ev_selP (by kernel_rfl) h
theorem rarg_z (A0 : Option Addr) (Rt : List RowI) (c : Nat) (L M : List V5) (up : BitVec 64) : ∀ r, Is (evT (EG (rws (mkRow A0 L.length 5 (F5 L) :: Rt)) false tabS []) 60 (.code (sR (sR (sR (Try.f34.body.getD .skip))))) ⟨pat [] r 0 Try.f34.ntmps, ⟨[.row M.length 5 (F5 M) cvE none], [], (newW 1)⟩⟩ (selK [0] .ret [(6, .bool true true)] Try.f34.ntmps [AIt.row (List.length M) 5 (F5 M) cvE none])) := fun r => ev_selQ (by kernel_rfl)
noncomputable def raRGS (L M : List V5) : SmP
  | [.rsl 0 m _, .gsl _ 0 0 n, u], [.row N' 5 F' e' none] => match labA u with
    | some (_, up, cs) => some (.bool false (alikeB L M up), decide (m = L.length) :: rowIs F' n M :: decide (n ≤ N') :: decide (e' = cvE) :: decide (m ≤ 1000000) :: cs)
    | none => none
  | _, _ => none
set_option maxHeartbeats 1000000 in
theorem raRGS_ok (A0 : Option Addr) (Rt : List RowI) (L M : List V5) (hR : RwOK (rws (mkRow A0 L.length 5 (F5 L) :: Rt))) (hRp : ∀ j r, (rws (mkRow A0 L.length 5 (F5 L) :: Rt)) j = some r → 0 < r.n → 0 < (r.V 0).length) : GoodP Try.prog (rws (mkRow A0 L.length 5 (F5 L) :: Rt)) 34 (raRGS L M) := by
  refine ⟨enters_of Try.func34 (by kernel_rfl) rfl, fun args H v cs h hcs => ?_⟩
  unfold raRGS at h
  split at h
  case h_2 => cases h
  rename_i m c k' n u N' F' e'
  split at h
  case h_2 => cases h
  rename_i ll up cs0 hu
  cases h
  simp only [List.mem_cons, forall_eq_or_imp] at hcs
  obtain ⟨x1, y1, y2, y3, z1, hcu⟩ := hcs
  have z1 := of_decide_eq_true z1
  have x1 := of_decide_eq_true x1
  have y2 := of_decide_eq_true y2
  have y3 := of_decide_eq_true y3
  obtain ⟨d3, d4⟩ := rowIs_spec y1
  subst x1
  subst d3
  subst y3
  refine ⟨_, rfl, fun Hr w Args hA hB hn hO => ?_⟩
  have hE := EG_ok (R := (rws (mkRow A0 L.length 5 (F5 L) :: Rt))) (T := tabS) hR false tabS_ok goodM_nil
  refine ev_enterH (E := EG (rws (mkRow A0 L.length 5 (F5 L) :: Rt)) false tabS []) (fn := Try.f34) (c := (Try.f34.body.getD .skip)) Try.func34 (by kernel_rfl) (args := [.rsl 0 L.length c, .gsl k' 0 0 M.length, u]) (show 3 ≤ Try.f34.ntmps by decide) hA hB hn hO (ds := []) (wr := (newW 1)) fun a0 hP0' hB0' => ?_
  have hl3 : Hr.length = 1 := hB.1
  have hW : wkM [.row N' 5 F' cvE none] [.row M.length 5 (F5 M) cvE none] := ⟨⟨y2, rfl, rfl, rfl, d4⟩, trivial⟩
  have hP0 := hP0'.wk (live' := [(0, .rsl 0 L.length c), (1, .gsl .any 0 0 M.length), (2, .bv .u64 up)]) (ds' := []) (wr' := (newW 1)) ⟨rfl, wkA.refl _, rfl, wkA_any, rfl, labA_wk hu hcu, trivial⟩ hW
  have hB0 := hB0'.wk hW
  refine wp_parts (by kernel_rfl) (ev_codeWS hE 60 [0] .normal (by decide) (by rfl) (rarg_a A0 Rt c L M up) (wkV.refl _) (wkM.refl _) hP0 hB0 fun a1 Hr1 w1 hP1 hB1 hT1 => ?_)
  by_cases hlen : L.length = M.length
  case neg =>
    refine wp_parts (by kernel_rfl) (ev_codeWS hE 60 [0] .ret (by decide) (by rfl) (rarg_b A0 Rt c L M up (allE_cons (by simp only [bne_iff_ne, ne_eq]; omega) allE_nil)) (wkV.refl _) (wkM.refl _) hP1 hB1 fun a2 Hr2 w2 hP2 hB2 hT2 => ?_)
    have ha : alikeB L M up = false := by simp [alikeB, hlen]
    rw [ha]
    exact ev_endD hE (Ds := []) (Hr0 := Hr) (vs := [.bool true false]) (fun rs => by kernel_rfl) rfl hRp hP2 hB2 (by rw [hl3]; exact hT1.trans hT2) (fun D hD => by cases hD) (.inl rfl)
  refine wp_parts (by kernel_rfl) (ev_codeWS hE 60 [0] .normal (by decide) (by rfl) (rarg_c A0 Rt c L M up (allE_cons (by rw [hlen]; simp) allE_nil)) (wkV.refl _) (wkM.refl _) hP1 hB1 fun a2 Hr2 w2 hP2 hB2 hT2 => ?_)
  refine wp_parts (by kernel_rfl) (wp_parts (by kernel_rfl) (ev_codeWS hE 60 [0] .normal (by decide) (by rfl) (rarg_d A0 Rt c L M up) (live'' := [(0, .rsl 0 L.length c), (1, .gsl .any 0 0 M.length), (2, .bv .u64 up), (7, .int .i64 false (((0 : Nat) : Int)))]) ⟨rfl, wkA.refl _, rfl, wkA.refl _, rfl, wkA.refl _, rfl, wkA_int, trivial⟩ (wkM.refl _) hP2 hB2 fun a3 Hr3 w3 hP3 hB3 hT3 => ?_))
  refine wp_bk (by kernel_rfl) ?_
  have hstep : ∀ k, k < L.length → sameB (L.getD k z5) (M.getD k z5) up = true → ∀ a2 Hr2 w2 (Q' : Exit → Act → World → Prop), PatSt (rws (mkRow A0 L.length 5 (F5 L) :: Rt)) ([].map markD) [(0, .rsl 0 L.length c), (1, .gsl .any 0 0 M.length), (2, .bv .u64 up), (7, .int .i64 false ((k : Int)))] Try.f34.ntmps ⟨[.row M.length 5 (F5 M) cvE none], [], allW⟩ a2 Hr2 → Bun (rws (mkRow A0 L.length 5 (F5 L) :: Rt)) [] 0 w [.row M.length 5 (F5 M) cvE none] Hr2 w2 → Stp (newW 1) Hr w Hr2 w2 → (∀ a' Hr' w', PatSt (rws (mkRow A0 L.length 5 (F5 L) :: Rt)) ([].map markD) [(0, .rsl 0 L.length c), (1, .gsl .any 0 0 M.length), (2, .bv .u64 up), (7, .int .i64 false (((k + 1 : Nat) : Int)))] Try.f34.ntmps ⟨[.row M.length 5 (F5 M) cvE none], [], allW⟩ a' Hr' → Bun (rws (mkRow A0 L.length 5 (F5 L) :: Rt)) [] 0 w [.row M.length 5 (F5 M) cvE none] Hr' w' → Stp (newW 1) Hr w Hr' w' → Q' .normal a' w') → Code.wp Try.prog (lpB (bkB (sR (sL (sR (sR (Try.f34.body.getD .skip))))))) Q' a2 w2 := fun k hk hs a2 Hr2 w2 Q' hP2 hB2 hI hnx => by
    have e1 : ((0 : Int) + (k : Int)).toNat = k := by omega
    have e2 : ((k : Int)).toNat = k := by omega
    refine ev_codeWS hE 60 [0] .normal (by decide) (by rfl) (rarg_l A0 Rt c L M up (k : Int) (allE_cons (by first | exact decide_eq_true (by omega) | exact decide_eq_true (by simp only [List.length_map, List.length_range]; omega)) (allE_cons (by first | exact decide_eq_true (by omega) | exact decide_eq_true (by simp only [List.length_map, List.length_range]; omega)) (allE_cons (by first | exact decide_eq_true (by omega) | exact decide_eq_true (by simp only [List.length_map, List.length_range]; omega)) (allE_cons (by first | exact decide_eq_true (by omega) | exact decide_eq_true (by simp only [List.length_map, List.length_range]; omega)) (allE_cons (by simp only [e1, e2]; simpa using hs) allE_nil)))))) (live'' := [(0, .rsl 0 L.length c), (1, .gsl .any 0 0 M.length), (2, .bv .u64 up), (7, .int .i64 false (((k + 1 : Nat) : Int)))]) ⟨rfl, wkA.refl _, rfl, wkA.refl _, rfl, wkA.refl _, rfl, wkA_intE (by rw [IntKind.wrap_i64]; omega), trivial⟩ (wkM.refl _) hP2 hB2 fun a3 Hr3 w3 hP3 hB3 hT3 => ?_
    exact hnx _ _ _ hP3 hB3 (hI.trans hT3)
  rcases first_no (fun i => sameB (L.getD i z5) (M.getD i z5) up) L.length with hall | ⟨j, hj, hno, hbef⟩
  · refine ev_loopI (by kernel_rfl) (fun Hr' w' => Stp (newW 1) Hr w Hr' w') L.length (.exit 0) rfl (fun k : Nat => [(0, .rsl 0 L.length c), (1, .gsl .any 0 0 M.length), (2, .bv .u64 up), (7, .int .i64 false ((k : Int)))]) (fun _ => [.row M.length 5 (F5 M) cvE none]) (live' := []) (H' := [.row M.length 5 (F5 M) cvE none]) (fun k hk a2 Hr2 w2 Q' hP2 hB2 hI hnx => hstep k hk (hall k hk) a2 Hr2 w2 Q' hP2 hB2 hI hnx) (fun a2 Hr2 w2 Q' hP2 hB2 hI hnx => ?_) hP3 hB3 ((hT1.trans hT2).trans hT3) fun a3 Hr3 w3 hP3 hB3 hI => ?_
    · refine ev_codeWS hE 60 [0] (.exit 0) (by decide) (by rfl) (rarg_x A0 Rt c L M up (L.length : Int) (allE_cons (by first | exact decide_eq_false (by omega) | exact decide_eq_false (by simp only [List.length_map, List.length_range]; omega)) allE_nil)) (wkV.refl _) (wkM.refl _) hP2 hB2 fun a3 Hr3 w3 hP3 hB3 hT3 => ?_
      exact hnx _ _ _ hP3 hB3 (hI.trans hT3)
    refine ev_codeWS hE 60 [0] .ret (by decide) (by rfl) (rarg_z A0 Rt c L M up) (wkV.refl _) (wkM.refl _) hP3 hB3 fun a4 Hr4 w4 hP4 hB4 hT4 => ?_
    have ha : alikeB L M up = true := by
      unfold alikeB
      rw [Bool.and_eq_true, decide_eq_true_eq, List.all_eq_true]
      exact ⟨hlen, fun i hi => hall i (List.mem_range.1 hi)⟩
    rw [ha]
    exact ev_endD hE (Ds := []) (Hr0 := Hr) (vs := [.bool true true]) (fun rs => by kernel_rfl) rfl hRp hP4 hB4 (by rw [hl3]; exact hI.trans hT4) (fun D hD => by cases hD) (.inl rfl)
  · refine ev_loopI (by kernel_rfl) (fun Hr' w' => Stp (newW 1) Hr w Hr' w') j .ret rfl (fun k : Nat => [(0, .rsl 0 L.length c), (1, .gsl .any 0 0 M.length), (2, .bv .u64 up), (7, .int .i64 false ((k : Int)))]) (fun _ => [.row M.length 5 (F5 M) cvE none]) (live' := [(6, .bool true false)]) (H' := [.row M.length 5 (F5 M) cvE none]) (fun k hk a2 Hr2 w2 Q' hP2 hB2 hI hnx => hstep k (by omega) (hbef k hk) a2 Hr2 w2 Q' hP2 hB2 hI hnx) (fun a2 Hr2 w2 Q' hP2 hB2 hI hnx => ?_) hP3 hB3 ((hT1.trans hT2).trans hT3) fun a3 Hr3 w3 hP3 hB3 hI => ?_
    · have e1 : ((0 : Int) + (j : Int)).toNat = j := by omega
      have e2 : ((j : Int)).toNat = j := by omega
      have hno : sameB (L.getD j z5) (M.getD j z5) up = false := hno
      refine ev_codeWS hE 60 [0] .ret (by decide) (by rfl) (rarg_r A0 Rt c L M up (j : Int) (allE_cons (by first | exact decide_eq_true (by omega) | exact decide_eq_true (by simp only [List.length_map, List.length_range]; omega)) (allE_cons (by first | exact decide_eq_true (by omega) | exact decide_eq_true (by simp only [List.length_map, List.length_range]; omega)) (allE_cons (by first | exact decide_eq_true (by omega) | exact decide_eq_true (by simp only [List.length_map, List.length_range]; omega)) (allE_cons (by first | exact decide_eq_true (by omega) | exact decide_eq_true (by simp only [List.length_map, List.length_range]; omega)) (allE_cons (by simp only [e1, e2]; simpa using hno) allE_nil)))))) (wkV.refl _) (wkM.refl _) hP2 hB2 fun a3 Hr3 w3 hP3 hB3 hT3 => ?_
      exact hnx _ _ _ hP3 hB3 (hI.trans hT3)
    have ha : alikeB L M up = false := by
      unfold alikeB
      rw [Bool.and_eq_false_iff]
      refine .inr (List.all_eq_false.2 ⟨j, List.mem_range.2 hj, by simp only [hno]; decide⟩)
    rw [ha]
    exact ev_endD hE (Ds := []) (Hr0 := Hr) (vs := [.bool true false]) (fun rs => by kernel_rfl) rfl hRp hP3 hB3 (by rw [hl3]; exact hI) (fun D hD => by cases hD) (.inl rfl)
theorem ragr_a (A0 : Option Addr) (Rt : List RowI) (c : Nat) (L M : List V5) (up : BitVec 64) : ∀ r, Is (evT (EG (rws (mkRow A0 L.length 5 (F5 L) :: Rt)) false tabS []) 60 (.code (sL (Try.f34.body.getD .skip))) ⟨pat [(0, .gsl .any 0 0 M.length), (1, .rsl 0 L.length c), (2, .bv .u64 up)] r 0 Try.f34.ntmps, ⟨[.row M.length 5 (F5 M) cvE none], [], (newW 1)⟩⟩ (selK [0] .normal [(0, .gsl .any 0 0 (List.length M)), (1, .rsl 0 (List.length L) c), (2, .bv .u64 up)] Try.f34.ntmps [AIt.row (List.length M) 5 (F5 M) cvE none])) := fun r => ev_selQ (by kernel_rfl)
theorem ragr_b (A0 : Option Addr) (Rt : List RowI) (c : Nat) (L M : List V5) (up : BitVec 64) (h : AllE [((↑(List.length M) : Int) != (↑(List.length L) : Int), true)]) : ∀ r, Is (evT (EG (rws (mkRow A0 L.length 5 (F5 L) :: Rt)) false tabS []) 60 (.code (sL (sR (Try.f34.body.getD .skip)))) ⟨pat [(0, .gsl .any 0 0 M.length), (1, .rsl 0 L.length c), (2, .bv .u64 up)] r 0 Try.f34.ntmps, ⟨[.row M.length 5 (F5 M) cvE none], [true], (newW 1)⟩⟩ (selK [0] .ret [(6, .bool true false)] Try.f34.ntmps [AIt.row (List.length M) 5 (F5 M) cvE none])) := fun r => ev_selP (by kernel_rfl) h
theorem ragr_c (A0 : Option Addr) (Rt : List RowI) (c : Nat) (L M : List V5) (up : BitVec 64) (h : AllE [((↑(List.length M) : Int) != (↑(List.length L) : Int), false)]) : ∀ r, Is (evT (EG (rws (mkRow A0 L.length 5 (F5 L) :: Rt)) false tabS []) 60 (.code (sL (sR (Try.f34.body.getD .skip)))) ⟨pat [(0, .gsl .any 0 0 M.length), (1, .rsl 0 L.length c), (2, .bv .u64 up)] r 0 Try.f34.ntmps, ⟨[.row M.length 5 (F5 M) cvE none], [false], (newW 1)⟩⟩ (selK [0] .normal [(0, .gsl .any 0 0 (List.length M)), (1, .rsl 0 (List.length L) c), (2, .bv .u64 up)] Try.f34.ntmps [AIt.row (List.length M) 5 (F5 M) cvE none])) := fun r => ev_selP (by kernel_rfl) h
theorem ragr_d (A0 : Option Addr) (Rt : List RowI) (c : Nat) (L M : List V5) (up : BitVec 64) : ∀ r, Is (evT (EG (rws (mkRow A0 L.length 5 (F5 L) :: Rt)) false tabS []) 60 (.code (sL (sL (sR (sR (Try.f34.body.getD .skip)))))) ⟨pat [(0, .gsl .any 0 0 M.length), (1, .rsl 0 L.length c), (2, .bv .u64 up)] r 0 Try.f34.ntmps, ⟨[.row M.length 5 (F5 M) cvE none], [], (newW 1)⟩⟩ (selK [0] .normal [(0, .gsl .any 0 0 (List.length M)), (1, .rsl 0 (List.length L) c), (2, .bv .u64 up), (7, .int .i64 true 0)] Try.f34.ntmps [AIt.row (List.length M) 5 (F5 M) cvE none])) := fun r => ev_selQ (by kernel_rfl)
theorem ragr_l (A0 : Option Addr) (Rt : List RowI) (c : Nat) (L M : List V5) (up : BitVec 64) (k : Int) (h : AllE [(decide (k < (↑(List.length M) : Int)), true), (decide (0 ≤ k ∧ k < (↑(List.length M) : Int)), true), (decide (0 ≤ (↑0 : Int) + k ∧ (↑0 : Int) + k < (↑(List.length M) : Int)), true), (decide (0 ≤ k ∧ k < (↑(List.length L) : Int)), true), (!sameB { a := V5.a (List.getD M (Int.toNat ((↑0 : Int) + k)) z5), b := V5.b (List.getD M (Int.toNat ((↑0 : Int) + k)) z5), c := V5.c (List.getD M (Int.toNat ((↑0 : Int) + k)) z5), d := V5.d (List.getD M (Int.toNat ((↑0 : Int) + k)) z5), l := V5.l (List.getD M (Int.toNat ((↑0 : Int) + k)) z5) } { a := V5.a (List.getD L (Int.toNat k) z5), b := V5.b (List.getD L (Int.toNat k) z5), c := V5.c (List.getD L (Int.toNat k) z5), d := V5.d (List.getD L (Int.toNat k) z5), l := V5.l (List.getD L (Int.toNat k) z5) } up, false)]) : ∀ r, Is (evT (EG (rws (mkRow A0 L.length 5 (F5 L) :: Rt)) false tabS []) 60 (.code (lpB (bkB (sR (sL (sR (sR (Try.f34.body.getD .skip)))))))) ⟨pat [(0, .gsl .any 0 0 M.length), (1, .rsl 0 L.length c), (2, .bv .u64 up), (7, .int .i64 false (k))] r 0 Try.f34.ntmps, ⟨[.row M.length 5 (F5 M) cvE none], [true, false], (newW 1)⟩⟩ (selK [0] .normal [(0, .gsl .any 0 0 (List.length M)), (1, .rsl 0 (List.length L) c), (2, .bv .u64 up), (7, .int .i64 false (IntKind.wrap .i64 (k + 1)))] Try.f34.ntmps [AIt.row (List.length M) 5 (F5 M) cvE none])) := fun r => ev_selP (by kernel_rfl) h
theorem ragr_r (A0 : Option Addr) (Rt : List RowI) (c : Nat) (L M : List V5) (up : BitVec 64) (k : Int) (h : AllE [(decide (k < (↑(List.length M) : Int)), true), (decide (0 ≤ k ∧ k < (↑(List.length M) : Int)), true), (decide (0 ≤ (↑0 : Int) + k ∧ (↑0 : Int) + k < (↑(List.length M) : Int)), true), (decide (0 ≤ k ∧ k < (↑(List.length L) : Int)), true), (!sameB { a := V5.a (List.getD M (Int.toNat ((↑0 : Int) + k)) z5), b := V5.b (List.getD M (Int.toNat ((↑0 : Int) + k)) z5), c := V5.c (List.getD M (Int.toNat ((↑0 : Int) + k)) z5), d := V5.d (List.getD M (Int.toNat ((↑0 : Int) + k)) z5), l := V5.l (List.getD M (Int.toNat ((↑0 : Int) + k)) z5) } { a := V5.a (List.getD L (Int.toNat k) z5), b := V5.b (List.getD L (Int.toNat k) z5), c := V5.c (List.getD L (Int.toNat k) z5), d := V5.d (List.getD L (Int.toNat k) z5), l := V5.l (List.getD L (Int.toNat k) z5) } up, true)]) : ∀ r, Is (evT (EG (rws (mkRow A0 L.length 5 (F5 L) :: Rt)) false tabS []) 60 (.code (lpB (bkB (sR (sL (sR (sR (Try.f34.body.getD .skip)))))))) ⟨pat [(0, .gsl .any 0 0 M.length), (1, .rsl 0 L.length c), (2, .bv .u64 up), (7, .int .i64 false (k))] r 0 Try.f34.ntmps, ⟨[.row M.length 5 (F5 M) cvE none], [true, true], (newW 1)⟩⟩ (selK [0] .ret [(6, .bool true false)] Try.f34.ntmps [AIt.row (List.length M) 5 (F5 M) cvE none])) := fun r => ev_selP (by kernel_rfl) h
theorem ragr_x (A0 : Option Addr) (Rt : List RowI) (c : Nat) (L M : List V5) (up : BitVec 64) (k : Int) (h : AllE [(decide (k < (↑(List.length M) : Int)), false)]) : ∀ r, Is (evT (EG (rws (mkRow A0 L.length 5 (F5 L) :: Rt)) false tabS []) 60 (.code (lpB (bkB (sR (sL (sR (sR (Try.f34.body.getD .skip)))))))) ⟨pat [(0, .gsl .any 0 0 M.length), (1, .rsl 0 L.length c), (2, .bv .u64 up), (7, .int .i64 false (k))] r 0 Try.f34.ntmps, ⟨[.row M.length 5 (F5 M) cvE none], [false], (newW 1)⟩⟩ (selK [0] (.exit 0) [] Try.f34.ntmps [AIt.row (List.length M) 5 (F5 M) cvE none])) := fun r => ev_selP (by kernel_rfl) h
theorem ragr_z (A0 : Option Addr) (Rt : List RowI) (c : Nat) (L M : List V5) (up : BitVec 64) : ∀ r, Is (evT (EG (rws (mkRow A0 L.length 5 (F5 L) :: Rt)) false tabS []) 60 (.code (sR (sR (sR (Try.f34.body.getD .skip))))) ⟨pat [] r 0 Try.f34.ntmps, ⟨[.row M.length 5 (F5 M) cvE none], [], (newW 1)⟩⟩ (selK [0] .ret [(6, .bool true true)] Try.f34.ntmps [AIt.row (List.length M) 5 (F5 M) cvE none])) := fun r => ev_selQ (by kernel_rfl)
noncomputable def raGRS (L M : List V5) : SmP
  | [.gsl _ 0 0 m, .rsl 0 n _, u], [.row N 5 F e none] => match labA u with
    | some (_, up, cs) => some (.bool false (alikeB M L up), rowIs F m M :: decide (m ≤ N) :: decide (e = cvE) :: decide (n = L.length) :: decide (m ≤ 1000000) :: cs)
    | none => none
  | _, _ => none
set_option maxHeartbeats 1000000 in
theorem raGRS_ok (A0 : Option Addr) (Rt : List RowI) (L M : List V5) (hR : RwOK (rws (mkRow A0 L.length 5 (F5 L) :: Rt))) (hRp : ∀ j r, (rws (mkRow A0 L.length 5 (F5 L) :: Rt)) j = some r → 0 < r.n → 0 < (r.V 0).length) : GoodP Try.prog (rws (mkRow A0 L.length 5 (F5 L) :: Rt)) 34 (raGRS L M) := by
  refine ⟨enters_of Try.func34 (by kernel_rfl) rfl, fun args H v cs h hcs => ?_⟩
  unfold raGRS at h
  split at h
  case h_2 => cases h
  rename_i k m n c u N F e 
  split at h
  case h_2 => cases h
  rename_i ll up cs0 hu
  cases h
  simp only [List.mem_cons, forall_eq_or_imp] at hcs
  obtain ⟨x1, x2, x3, y1, z1, hcu⟩ := hcs
  have z1 := of_decide_eq_true z1
  have x2 := of_decide_eq_true x2
  have x3 := of_decide_eq_true x3
  obtain ⟨d1, d2⟩ := rowIs_spec x1
  have y1 := of_decide_eq_true y1
  subst d1
  subst x3
  subst y1
  refine ⟨_, rfl, fun Hr w Args hA hB hn hO => ?_⟩
  have hE := EG_ok (R := (rws (mkRow A0 L.length 5 (F5 L) :: Rt))) (T := tabS) hR false tabS_ok goodM_nil
  refine ev_enterH (E := EG (rws (mkRow A0 L.length 5 (F5 L) :: Rt)) false tabS []) (fn := Try.f34) (c := (Try.f34.body.getD .skip)) Try.func34 (by kernel_rfl) (args := [.gsl k 0 0 M.length, .rsl 0 L.length c, u]) (show 3 ≤ Try.f34.ntmps by decide) hA hB hn hO (ds := []) (wr := (newW 1)) fun a0 hP0' hB0' => ?_
  have hl3 : Hr.length = 1 := hB.1
  have hW : wkM [.row N 5 F cvE none] [.row M.length 5 (F5 M) cvE none] := ⟨⟨x2, rfl, rfl, rfl, d2⟩, trivial⟩
  have hP0 := hP0'.wk (live' := [(0, .gsl .any 0 0 M.length), (1, .rsl 0 L.length c), (2, .bv .u64 up)]) (ds' := []) (wr' := (newW 1)) ⟨rfl, wkA_any, rfl, wkA.refl _, rfl, labA_wk hu hcu, trivial⟩ hW
  have hB0 := hB0'.wk hW
  refine wp_parts (by kernel_rfl) (ev_codeWS hE 60 [0] .normal (by decide) (by rfl) (ragr_a A0 Rt c L M up) (wkV.refl _) (wkM.refl _) hP0 hB0 fun a1 Hr1 w1 hP1 hB1 hT1 => ?_)
  by_cases hlen : M.length = L.length
  case neg =>
    refine wp_parts (by kernel_rfl) (ev_codeWS hE 60 [0] .ret (by decide) (by rfl) (ragr_b A0 Rt c L M up (allE_cons (by simp only [bne_iff_ne, ne_eq]; omega) allE_nil)) (wkV.refl _) (wkM.refl _) hP1 hB1 fun a2 Hr2 w2 hP2 hB2 hT2 => ?_)
    have ha : alikeB M L up = false := by simp [alikeB, hlen]
    rw [ha]
    exact ev_endD hE (Ds := []) (Hr0 := Hr) (vs := [.bool true false]) (fun rs => by kernel_rfl) rfl hRp hP2 hB2 (by rw [hl3]; exact hT1.trans hT2) (fun D hD => by cases hD) (.inl rfl)
  refine wp_parts (by kernel_rfl) (ev_codeWS hE 60 [0] .normal (by decide) (by rfl) (ragr_c A0 Rt c L M up (allE_cons (by rw [hlen]; simp) allE_nil)) (wkV.refl _) (wkM.refl _) hP1 hB1 fun a2 Hr2 w2 hP2 hB2 hT2 => ?_)
  refine wp_parts (by kernel_rfl) (wp_parts (by kernel_rfl) (ev_codeWS hE 60 [0] .normal (by decide) (by rfl) (ragr_d A0 Rt c L M up) (live'' := [(0, .gsl .any 0 0 M.length), (1, .rsl 0 L.length c), (2, .bv .u64 up), (7, .int .i64 false (((0 : Nat) : Int)))]) ⟨rfl, wkA.refl _, rfl, wkA.refl _, rfl, wkA.refl _, rfl, wkA_int, trivial⟩ (wkM.refl _) hP2 hB2 fun a3 Hr3 w3 hP3 hB3 hT3 => ?_))
  refine wp_bk (by kernel_rfl) ?_
  have hstep : ∀ k, k < M.length → sameB (M.getD k z5) (L.getD k z5) up = true → ∀ a2 Hr2 w2 (Q' : Exit → Act → World → Prop), PatSt (rws (mkRow A0 L.length 5 (F5 L) :: Rt)) ([].map markD) [(0, .gsl .any 0 0 M.length), (1, .rsl 0 L.length c), (2, .bv .u64 up), (7, .int .i64 false ((k : Int)))] Try.f34.ntmps ⟨[.row M.length 5 (F5 M) cvE none], [], allW⟩ a2 Hr2 → Bun (rws (mkRow A0 L.length 5 (F5 L) :: Rt)) [] 0 w [.row M.length 5 (F5 M) cvE none] Hr2 w2 → Stp (newW 1) Hr w Hr2 w2 → (∀ a' Hr' w', PatSt (rws (mkRow A0 L.length 5 (F5 L) :: Rt)) ([].map markD) [(0, .gsl .any 0 0 M.length), (1, .rsl 0 L.length c), (2, .bv .u64 up), (7, .int .i64 false (((k + 1 : Nat) : Int)))] Try.f34.ntmps ⟨[.row M.length 5 (F5 M) cvE none], [], allW⟩ a' Hr' → Bun (rws (mkRow A0 L.length 5 (F5 L) :: Rt)) [] 0 w [.row M.length 5 (F5 M) cvE none] Hr' w' → Stp (newW 1) Hr w Hr' w' → Q' .normal a' w') → Code.wp Try.prog (lpB (bkB (sR (sL (sR (sR (Try.f34.body.getD .skip))))))) Q' a2 w2 := fun k hk hs a2 Hr2 w2 Q' hP2 hB2 hI hnx => by
    have e1 : ((0 : Int) + (k : Int)).toNat = k := by omega
    have e2 : ((k : Int)).toNat = k := by omega
    refine ev_codeWS hE 60 [0] .normal (by decide) (by rfl) (ragr_l A0 Rt c L M up (k : Int) (allE_cons (by first | exact decide_eq_true (by omega) | exact decide_eq_true (by simp only [List.length_map, List.length_range]; omega)) (allE_cons (by first | exact decide_eq_true (by omega) | exact decide_eq_true (by simp only [List.length_map, List.length_range]; omega)) (allE_cons (by first | exact decide_eq_true (by omega) | exact decide_eq_true (by simp only [List.length_map, List.length_range]; omega)) (allE_cons (by first | exact decide_eq_true (by omega) | exact decide_eq_true (by simp only [List.length_map, List.length_range]; omega)) (allE_cons (by simp only [e1, e2]; simpa using hs) allE_nil)))))) (live'' := [(0, .gsl .any 0 0 M.length), (1, .rsl 0 L.length c), (2, .bv .u64 up), (7, .int .i64 false (((k + 1 : Nat) : Int)))]) ⟨rfl, wkA.refl _, rfl, wkA.refl _, rfl, wkA.refl _, rfl, wkA_intE (by rw [IntKind.wrap_i64]; omega), trivial⟩ (wkM.refl _) hP2 hB2 fun a3 Hr3 w3 hP3 hB3 hT3 => ?_
    exact hnx _ _ _ hP3 hB3 (hI.trans hT3)
  rcases first_no (fun i => sameB (M.getD i z5) (L.getD i z5) up) M.length with hall | ⟨j, hj, hno, hbef⟩
  · refine ev_loopI (by kernel_rfl) (fun Hr' w' => Stp (newW 1) Hr w Hr' w') M.length (.exit 0) rfl (fun k : Nat => [(0, .gsl .any 0 0 M.length), (1, .rsl 0 L.length c), (2, .bv .u64 up), (7, .int .i64 false ((k : Int)))]) (fun _ => [.row M.length 5 (F5 M) cvE none]) (live' := []) (H' := [.row M.length 5 (F5 M) cvE none]) (fun k hk a2 Hr2 w2 Q' hP2 hB2 hI hnx => hstep k hk (hall k hk) a2 Hr2 w2 Q' hP2 hB2 hI hnx) (fun a2 Hr2 w2 Q' hP2 hB2 hI hnx => ?_) hP3 hB3 ((hT1.trans hT2).trans hT3) fun a3 Hr3 w3 hP3 hB3 hI => ?_
    · refine ev_codeWS hE 60 [0] (.exit 0) (by decide) (by rfl) (ragr_x A0 Rt c L M up (M.length : Int) (allE_cons (by first | exact decide_eq_false (by omega) | exact decide_eq_false (by simp only [List.length_map, List.length_range]; omega)) allE_nil)) (wkV.refl _) (wkM.refl _) hP2 hB2 fun a3 Hr3 w3 hP3 hB3 hT3 => ?_
      exact hnx _ _ _ hP3 hB3 (hI.trans hT3)
    refine ev_codeWS hE 60 [0] .ret (by decide) (by rfl) (ragr_z A0 Rt c L M up) (wkV.refl _) (wkM.refl _) hP3 hB3 fun a4 Hr4 w4 hP4 hB4 hT4 => ?_
    have ha : alikeB M L up = true := by
      unfold alikeB
      rw [Bool.and_eq_true, decide_eq_true_eq, List.all_eq_true]
      exact ⟨hlen, fun i hi => hall i (List.mem_range.1 hi)⟩
    rw [ha]
    exact ev_endD hE (Ds := []) (Hr0 := Hr) (vs := [.bool true true]) (fun rs => by kernel_rfl) rfl hRp hP4 hB4 (by rw [hl3]; exact hI.trans hT4) (fun D hD => by cases hD) (.inl rfl)
  · refine ev_loopI (by kernel_rfl) (fun Hr' w' => Stp (newW 1) Hr w Hr' w') j .ret rfl (fun k : Nat => [(0, .gsl .any 0 0 M.length), (1, .rsl 0 L.length c), (2, .bv .u64 up), (7, .int .i64 false ((k : Int)))]) (fun _ => [.row M.length 5 (F5 M) cvE none]) (live' := [(6, .bool true false)]) (H' := [.row M.length 5 (F5 M) cvE none]) (fun k hk a2 Hr2 w2 Q' hP2 hB2 hI hnx => hstep k (by omega) (hbef k hk) a2 Hr2 w2 Q' hP2 hB2 hI hnx) (fun a2 Hr2 w2 Q' hP2 hB2 hI hnx => ?_) hP3 hB3 ((hT1.trans hT2).trans hT3) fun a3 Hr3 w3 hP3 hB3 hI => ?_
    · have e1 : ((0 : Int) + (j : Int)).toNat = j := by omega
      have e2 : ((j : Int)).toNat = j := by omega
      have hno : sameB (M.getD j z5) (L.getD j z5) up = false := hno
      refine ev_codeWS hE 60 [0] .ret (by decide) (by rfl) (ragr_r A0 Rt c L M up (j : Int) (allE_cons (by first | exact decide_eq_true (by omega) | exact decide_eq_true (by simp only [List.length_map, List.length_range]; omega)) (allE_cons (by first | exact decide_eq_true (by omega) | exact decide_eq_true (by simp only [List.length_map, List.length_range]; omega)) (allE_cons (by first | exact decide_eq_true (by omega) | exact decide_eq_true (by simp only [List.length_map, List.length_range]; omega)) (allE_cons (by first | exact decide_eq_true (by omega) | exact decide_eq_true (by simp only [List.length_map, List.length_range]; omega)) (allE_cons (by simp only [e1, e2]; simpa using hno) allE_nil)))))) (wkV.refl _) (wkM.refl _) hP2 hB2 fun a3 Hr3 w3 hP3 hB3 hT3 => ?_
      exact hnx _ _ _ hP3 hB3 (hI.trans hT3)
    have ha : alikeB M L up = false := by
      unfold alikeB
      rw [Bool.and_eq_false_iff]
      refine .inr (List.all_eq_false.2 ⟨j, List.mem_range.2 hj, by simp only [hno]; decide⟩)
    rw [ha]
    exact ev_endD hE (Ds := []) (Hr0 := Hr) (vs := [.bool true false]) (fun rs => by kernel_rfl) rfl hRp hP3 hB3 (by rw [hl3]; exact hI) (fun D hD => by cases hD) (.inl rfl)
theorem rarr_a (A0 : Option Addr) (Rt : List RowI) (c c' : Nat) (L M : List V5) (up : BitVec 64) : ∀ r, Is (evT (EG (rws (mkRow A0 L.length 5 (F5 L) :: Rt)) false tabS []) 60 (.code (sL (Try.f34.body.getD .skip))) ⟨pat [(0, .rsl 0 L.length c), (1, .rsl 0 L.length c'), (2, .bv .u64 up)] r 0 Try.f34.ntmps, ⟨[], [], (newW 0)⟩⟩ (selK [] .normal [(0, .rsl 0 (List.length L) c), (1, .rsl 0 (List.length L) c'), (2, .bv .u64 up)] Try.f34.ntmps [])) := fun r => ev_selQ (by kernel_rfl)
theorem rarr_c (A0 : Option Addr) (Rt : List RowI) (c c' : Nat) (L M : List V5) (up : BitVec 64) (h : AllE [((↑(List.length L) : Int) != (↑(List.length L) : Int), false)]) : ∀ r, Is (evT (EG (rws (mkRow A0 L.length 5 (F5 L) :: Rt)) false tabS []) 60 (.code (sL (sR (Try.f34.body.getD .skip)))) ⟨pat [(0, .rsl 0 L.length c), (1, .rsl 0 L.length c'), (2, .bv .u64 up)] r 0 Try.f34.ntmps, ⟨[], [false], (newW 0)⟩⟩ (selK [] .normal [(0, .rsl 0 (List.length L) c), (1, .rsl 0 (List.length L) c'), (2, .bv .u64 up)] Try.f34.ntmps [])) := fun r => ev_selP (by kernel_rfl) h
theorem rarr_d (A0 : Option Addr) (Rt : List RowI) (c c' : Nat) (L M : List V5) (up : BitVec 64) : ∀ r, Is (evT (EG (rws (mkRow A0 L.length 5 (F5 L) :: Rt)) false tabS []) 60 (.code (sL (sL (sR (sR (Try.f34.body.getD .skip)))))) ⟨pat [(0, .rsl 0 L.length c), (1, .rsl 0 L.length c'), (2, .bv .u64 up)] r 0 Try.f34.ntmps, ⟨[], [], (newW 0)⟩⟩ (selK [] .normal [(0, .rsl 0 (List.length L) c), (1, .rsl 0 (List.length L) c'), (2, .bv .u64 up), (7, .int .i64 true 0)] Try.f34.ntmps [])) := fun r => ev_selQ (by kernel_rfl)
theorem rarr_l (A0 : Option Addr) (Rt : List RowI) (c c' : Nat) (L M : List V5) (up : BitVec 64) (k : Int) (h : AllE [(decide (k < (↑(List.length L) : Int)), true), (decide (0 ≤ k ∧ k < (↑(List.length L) : Int)), true), (decide (0 ≤ k ∧ k < (↑(List.length L) : Int)), true), (!sameB { a := V5.a (List.getD L (Int.toNat k) z5), b := V5.b (List.getD L (Int.toNat k) z5), c := V5.c (List.getD L (Int.toNat k) z5), d := V5.d (List.getD L (Int.toNat k) z5), l := V5.l (List.getD L (Int.toNat k) z5) } { a := V5.a (List.getD L (Int.toNat k) z5), b := V5.b (List.getD L (Int.toNat k) z5), c := V5.c (List.getD L (Int.toNat k) z5), d := V5.d (List.getD L (Int.toNat k) z5), l := V5.l (List.getD L (Int.toNat k) z5) } up, false)]) : ∀ r, Is (evT (EG (rws (mkRow A0 L.length 5 (F5 L) :: Rt)) false tabS []) 60 (.code (lpB (bkB (sR (sL (sR (sR (Try.f34.body.getD .skip)))))))) ⟨pat [(0, .rsl 0 L.length c), (1, .rsl 0 L.length c'), (2, .bv .u64 up), (7, .int .i64 false (k))] r 0 Try.f34.ntmps, ⟨[], [true, false], (newW 0)⟩⟩ (selK [] .normal [(0, .rsl 0 (List.length L) c), (1, .rsl 0 (List.length L) c'), (2, .bv .u64 up), (7, .int .i64 false (IntKind.wrap .i64 (k + 1)))] Try.f34.ntmps [])) := fun r => ev_selP (by kernel_rfl) h
theorem rarr_r (A0 : Option Addr) (Rt : List RowI) (c c' : Nat) (L M : List V5) (up : BitVec 64) (k : Int) (h : AllE [(decide (k < (↑(List.length L) : Int)), true), (decide (0 ≤ k ∧ k < (↑(List.length L) : Int)), true), (decide (0 ≤ k ∧ k < (↑(List.length L) : Int)), true), (!sameB { a := V5.a (List.getD L (Int.toNat k) z5), b := V5.b (List.getD L (Int.toNat k) z5), c := V5.c (List.getD L (Int.toNat k) z5), d := V5.d (List.getD L (Int.toNat k) z5), l := V5.l (List.getD L (Int.toNat k) z5) } { a := V5.a (List.getD L (Int.toNat k) z5), b := V5.b (List.getD L (Int.toNat k) z5), c := V5.c (List.getD L (Int.toNat k) z5), d := V5.d (List.getD L (Int.toNat k) z5), l := V5.l (List.getD L (Int.toNat k) z5) } up, true)]) : ∀ r, Is (evT (EG (rws (mkRow A0 L.length 5 (F5 L) :: Rt)) false tabS []) 60 (.code (lpB (bkB (sR (sL (sR (sR (Try.f34.body.getD .skip)))))))) ⟨pat [(0, .rsl 0 L.length c), (1, .rsl 0 L.length c'), (2, .bv .u64 up), (7, .int .i64 false (k))] r 0 Try.f34.ntmps, ⟨[], [true, true], (newW 0)⟩⟩ (selK [] .ret [(6, .bool true false)] Try.f34.ntmps [])) := fun r => ev_selP (by kernel_rfl) h
theorem rarr_x (A0 : Option Addr) (Rt : List RowI) (c c' : Nat) (L M : List V5) (up : BitVec 64) (k : Int) (h : AllE [(decide (k < (↑(List.length L) : Int)), false)]) : ∀ r, Is (evT (EG (rws (mkRow A0 L.length 5 (F5 L) :: Rt)) false tabS []) 60 (.code (lpB (bkB (sR (sL (sR (sR (Try.f34.body.getD .skip)))))))) ⟨pat [(0, .rsl 0 L.length c), (1, .rsl 0 L.length c'), (2, .bv .u64 up), (7, .int .i64 false (k))] r 0 Try.f34.ntmps, ⟨[], [false], (newW 0)⟩⟩ (selK [] (.exit 0) [] Try.f34.ntmps [])) := fun r => ev_selP (by kernel_rfl) h
theorem rarr_z (A0 : Option Addr) (Rt : List RowI) (c c' : Nat) (L M : List V5) (up : BitVec 64) : ∀ r, Is (evT (EG (rws (mkRow A0 L.length 5 (F5 L) :: Rt)) false tabS []) 60 (.code (sR (sR (sR (Try.f34.body.getD .skip))))) ⟨pat [] r 0 Try.f34.ntmps, ⟨[], [], (newW 0)⟩⟩ (selK [] .ret [(6, .bool true true)] Try.f34.ntmps [])) := fun r => ev_selQ (by kernel_rfl)
noncomputable def raRRS (L M : List V5) : SmP
  | [.rsl 0 m _, .rsl 0 n _, u], [] => match labA u with
    | some (_, up, cs) => some (.bool false (alikeB L L up), decide (m = L.length) :: decide (n = L.length) :: decide (m ≤ 1000000) :: cs)
    | none => none
  | _, _ => none
set_option maxHeartbeats 1000000 in
theorem raRRS_ok (A0 : Option Addr) (Rt : List RowI) (L M : List V5) (hR : RwOK (rws (mkRow A0 L.length 5 (F5 L) :: Rt))) (hRp : ∀ j r, (rws (mkRow A0 L.length 5 (F5 L) :: Rt)) j = some r → 0 < r.n → 0 < (r.V 0).length) : GoodP Try.prog (rws (mkRow A0 L.length 5 (F5 L) :: Rt)) 34 (raRRS L M) := by
  refine ⟨enters_of Try.func34 (by kernel_rfl) rfl, fun args H v cs h hcs => ?_⟩
  unfold raRRS at h
  split at h
  case h_2 => cases h
  rename_i m c n c' u 
  split at h
  case h_2 => cases h
  rename_i ll up cs0 hu
  cases h
  simp only [List.mem_cons, forall_eq_or_imp] at hcs
  obtain ⟨x1, y1, z1, hcu⟩ := hcs
  have z1 := of_decide_eq_true z1
  have x1 := of_decide_eq_true x1
  have y1 := of_decide_eq_true y1
  subst x1
  subst y1
  refine ⟨_, rfl, fun Hr w Args hA hB hn hO => ?_⟩
  have hE := EG_ok (R := (rws (mkRow A0 L.length 5 (F5 L) :: Rt))) (T := tabS) hR false tabS_ok goodM_nil
  refine ev_enterH (E := EG (rws (mkRow A0 L.length 5 (F5 L) :: Rt)) false tabS []) (fn := Try.f34) (c := (Try.f34.body.getD .skip)) Try.func34 (by kernel_rfl) (args := [.rsl 0 L.length c, .rsl 0 L.length c', u]) (show 3 ≤ Try.f34.ntmps by decide) hA hB hn hO (ds := []) (wr := (newW 0)) fun a0 hP0' hB0' => ?_
  have hl3 : Hr.length = 0 := hB.1
  have hW : wkM [] [] := trivial
  have hP0 := hP0'.wk (live' := [(0, .rsl 0 L.length c), (1, .rsl 0 L.length c'), (2, .bv .u64 up)]) (ds' := []) (wr' := (newW 0)) ⟨rfl, wkA.refl _, rfl, wkA.refl _, rfl, labA_wk hu hcu, trivial⟩ hW
  have hB0 := hB0'.wk hW
  refine wp_parts (by kernel_rfl) (ev_codeWS hE 60 [] .normal (by decide) (by rfl) (rarr_a A0 Rt c c' L M up) (wkV.refl _) (wkM.refl _) hP0 hB0 fun a1 Hr1 w1 hP1 hB1 hT1 => ?_)
  have hlen : L.length = L.length := rfl
  refine wp_parts (by kernel_rfl) (ev_codeWS hE 60 [] .normal (by decide) (by rfl) (rarr_c A0 Rt c c' L M up (allE_cons (by simp) allE_nil)) (wkV.refl _) (wkM.refl _) hP1 hB1 fun a2 Hr2 w2 hP2 hB2 hT2 => ?_)
  refine wp_parts (by kernel_rfl) (wp_parts (by kernel_rfl) (ev_codeWS hE 60 [] .normal (by decide) (by rfl) (rarr_d A0 Rt c c' L M up) (live'' := [(0, .rsl 0 L.length c), (1, .rsl 0 L.length c'), (2, .bv .u64 up), (7, .int .i64 false (((0 : Nat) : Int)))]) ⟨rfl, wkA.refl _, rfl, wkA.refl _, rfl, wkA.refl _, rfl, wkA_int, trivial⟩ (wkM.refl _) hP2 hB2 fun a3 Hr3 w3 hP3 hB3 hT3 => ?_))
  refine wp_bk (by kernel_rfl) ?_
  have hstep : ∀ k, k < L.length → sameB (L.getD k z5) (L.getD k z5) up = true → ∀ a2 Hr2 w2 (Q' : Exit → Act → World → Prop), PatSt (rws (mkRow A0 L.length 5 (F5 L) :: Rt)) ([].map markD) [(0, .rsl 0 L.length c), (1, .rsl 0 L.length c'), (2, .bv .u64 up), (7, .int .i64 false ((k : Int)))] Try.f34.ntmps ⟨[], [], allW⟩ a2 Hr2 → Bun (rws (mkRow A0 L.length 5 (F5 L) :: Rt)) [] 0 w [] Hr2 w2 → Stp (newW 0) Hr w Hr2 w2 → (∀ a' Hr' w', PatSt (rws (mkRow A0 L.length 5 (F5 L) :: Rt)) ([].map markD) [(0, .rsl 0 L.length c), (1, .rsl 0 L.length c'), (2, .bv .u64 up), (7, .int .i64 false (((k + 1 : Nat) : Int)))] Try.f34.ntmps ⟨[], [], allW⟩ a' Hr' → Bun (rws (mkRow A0 L.length 5 (F5 L) :: Rt)) [] 0 w [] Hr' w' → Stp (newW 0) Hr w Hr' w' → Q' .normal a' w') → Code.wp Try.prog (lpB (bkB (sR (sL (sR (sR (Try.f34.body.getD .skip))))))) Q' a2 w2 := fun k hk hs a2 Hr2 w2 Q' hP2 hB2 hI hnx => by
    have e1 : ((0 : Int) + (k : Int)).toNat = k := by omega
    have e2 : ((k : Int)).toNat = k := by omega
    refine ev_codeWS hE 60 [] .normal (by decide) (by rfl) (rarr_l A0 Rt c c' L M up (k : Int) (allE_cons (by first | exact decide_eq_true (by omega) | exact decide_eq_true (by simp only [List.length_map, List.length_range]; omega)) (allE_cons (by first | exact decide_eq_true (by omega) | exact decide_eq_true (by simp only [List.length_map, List.length_range]; omega)) (allE_cons (by first | exact decide_eq_true (by omega) | exact decide_eq_true (by simp only [List.length_map, List.length_range]; omega)) (allE_cons (by simp only [e1, e2]; simpa using hs) allE_nil))))) (live'' := [(0, .rsl 0 L.length c), (1, .rsl 0 L.length c'), (2, .bv .u64 up), (7, .int .i64 false (((k + 1 : Nat) : Int)))]) ⟨rfl, wkA.refl _, rfl, wkA.refl _, rfl, wkA.refl _, rfl, wkA_intE (by rw [IntKind.wrap_i64]; omega), trivial⟩ (wkM.refl _) hP2 hB2 fun a3 Hr3 w3 hP3 hB3 hT3 => ?_
    exact hnx _ _ _ hP3 hB3 (hI.trans hT3)
  rcases first_no (fun i => sameB (L.getD i z5) (L.getD i z5) up) L.length with hall | ⟨j, hj, hno, hbef⟩
  · refine ev_loopI (by kernel_rfl) (fun Hr' w' => Stp (newW 0) Hr w Hr' w') L.length (.exit 0) rfl (fun k : Nat => [(0, .rsl 0 L.length c), (1, .rsl 0 L.length c'), (2, .bv .u64 up), (7, .int .i64 false ((k : Int)))]) (fun _ => []) (live' := []) (H' := []) (fun k hk a2 Hr2 w2 Q' hP2 hB2 hI hnx => hstep k hk (hall k hk) a2 Hr2 w2 Q' hP2 hB2 hI hnx) (fun a2 Hr2 w2 Q' hP2 hB2 hI hnx => ?_) hP3 hB3 ((hT1.trans hT2).trans hT3) fun a3 Hr3 w3 hP3 hB3 hI => ?_
    · refine ev_codeWS hE 60 [] (.exit 0) (by decide) (by rfl) (rarr_x A0 Rt c c' L M up (L.length : Int) (allE_cons (by first | exact decide_eq_false (by omega) | exact decide_eq_false (by simp only [List.length_map, List.length_range]; omega)) allE_nil)) (wkV.refl _) (wkM.refl _) hP2 hB2 fun a3 Hr3 w3 hP3 hB3 hT3 => ?_
      exact hnx _ _ _ hP3 hB3 (hI.trans hT3)
    refine ev_codeWS hE 60 [] .ret (by decide) (by rfl) (rarr_z A0 Rt c c' L M up) (wkV.refl _) (wkM.refl _) hP3 hB3 fun a4 Hr4 w4 hP4 hB4 hT4 => ?_
    have ha : alikeB L L up = true := by
      unfold alikeB
      rw [Bool.and_eq_true, decide_eq_true_eq, List.all_eq_true]
      exact ⟨hlen, fun i hi => hall i (List.mem_range.1 hi)⟩
    rw [ha]
    exact ev_endD hE (Ds := []) (Hr0 := Hr) (vs := [.bool true true]) (fun rs => by kernel_rfl) rfl hRp hP4 hB4 (by rw [hl3]; exact hI.trans hT4) (fun D hD => by cases hD) (.inl rfl)
  · refine ev_loopI (by kernel_rfl) (fun Hr' w' => Stp (newW 0) Hr w Hr' w') j .ret rfl (fun k : Nat => [(0, .rsl 0 L.length c), (1, .rsl 0 L.length c'), (2, .bv .u64 up), (7, .int .i64 false ((k : Int)))]) (fun _ => []) (live' := [(6, .bool true false)]) (H' := []) (fun k hk a2 Hr2 w2 Q' hP2 hB2 hI hnx => hstep k (by omega) (hbef k hk) a2 Hr2 w2 Q' hP2 hB2 hI hnx) (fun a2 Hr2 w2 Q' hP2 hB2 hI hnx => ?_) hP3 hB3 ((hT1.trans hT2).trans hT3) fun a3 Hr3 w3 hP3 hB3 hI => ?_
    · have e1 : ((0 : Int) + (j : Int)).toNat = j := by omega
      have e2 : ((j : Int)).toNat = j := by omega
      have hno : sameB (L.getD j z5) (L.getD j z5) up = false := hno
      refine ev_codeWS hE 60 [] .ret (by decide) (by rfl) (rarr_r A0 Rt c c' L M up (j : Int) (allE_cons (by first | exact decide_eq_true (by omega) | exact decide_eq_true (by simp only [List.length_map, List.length_range]; omega)) (allE_cons (by first | exact decide_eq_true (by omega) | exact decide_eq_true (by simp only [List.length_map, List.length_range]; omega)) (allE_cons (by first | exact decide_eq_true (by omega) | exact decide_eq_true (by simp only [List.length_map, List.length_range]; omega)) (allE_cons (by simp only [e1, e2]; simpa using hno) allE_nil))))) (wkV.refl _) (wkM.refl _) hP2 hB2 fun a3 Hr3 w3 hP3 hB3 hT3 => ?_
      exact hnx _ _ _ hP3 hB3 (hI.trans hT3)
    have ha : alikeB L L up = false := by
      unfold alikeB
      rw [Bool.and_eq_false_iff]
      refine .inr (List.all_eq_false.2 ⟨j, List.mem_range.2 hj, by simp only [hno]; decide⟩)
    rw [ha]
    exact ev_endD hE (Ds := []) (Hr0 := Hr) (vs := [.bool true false]) (fun rs => by kernel_rfl) rfl hRp hP3 hB3 (by rw [hl3]; exact hI) (fun D hD => by cases hD) (.inl rfl)
end Go.Proofs.Ytcfomhnfhalmaaa
end

section
set_option linter.unusedVariables false
set_option linter.unusedSimpArgs false
set_option maxRecDepth 100000
namespace Go.Proofs.Ytcfomhnfhalmaaa
open Go.RowKit

section
variable {E : Env} (hE : EnvOK E) {Ds : List Nat} {n0 : Nat} {w0 : World}
include hE
theorem ev_codeWP (nf : Nat) (sel : List Nat) (e0 : AExit) {c : Code} {live live' live'' : List (Nat × AV)} {n : Nat} {H H' H'' : Mem} {ds ds' : List Bool} {wr wr' : Nat → Bool} (hnd : nodupN sel = true) {Hr0 : List RBlk} {w00 : World} (hpre : sel.take Hr0.length = List.range Hr0.length) (h : ∀ r, Is (evT E nf (.code c) ⟨pat live r 0 n, ⟨H, ds, wr⟩⟩ (selK sel e0 live' n H'))) (hwl : wkV live' live'') (hwm : wkM H' H'')
    {a : Act} {Hr : List RBlk} {w : World} {Q : Exit → Act → World → Prop} (hP : PatSt E.rows (Ds.map markD) live n ⟨H, ds', wr'⟩ a Hr) (hB : Bun E.rows Ds n0 w0 H Hr w)
    (hI : Stp wr Hr0 w00 Hr w)
    (hk : ∀ a' Hr' w', PatSt E.rows (Ds.map markD) live'' n ⟨H'', [], allW⟩ a' Hr' → Bun E.rows Ds n0 w0 H'' Hr' w' → Stp wr Hr0 w00 Hr' w' → Q e0.real a' w') : c.wp E.P Q a w := by
  obtain ⟨r, hR⟩ := hP
  obtain ⟨e, st', h1, hlo, hs⟩ := ev_sound hE nf (.code c) _ _ (h r).is
  refine wp_mono (hs a Hr w hR hB.own) ?_
  rintro e' a' w' ⟨rfl, Hr', hR', hO', hS⟩
  unfold selK at h1
  simp only [Prod.mk.injEq] at h1
  obtain ⟨he, hn, hl, hH, hd⟩ := h1
  rw [eqE_eq he]
  have hB' := hB.stp hO' hS
  obtain ⟨vs, rfl, ht, hBl, hnod⟩ := hR'
  have hbl := hBl.len
  have hlen : H'.length = sel.length := by have := congrArg List.length hH; simpa using this.symm
  have hat : ∀ i l : Nat, sel[i]? = some l → ∃ p q : AIt, st'.m.H[l]? = some p ∧ renI sel p = some q ∧ H'[i]? = some q := by
    intro i l hi
    have h2 := congrArg (fun z : List (Option AIt) => z[i]?) hH
    simp only [List.getElem?_map, hi, Option.map_some] at h2
    have hi' : i < H'.length := by rw [hlen]; exact (List.getElem?_eq_some_iff.1 hi).1
    rw [List.getElem?_eq_getElem hi', Option.map_some, Option.some.injEq] at h2
    rw [Option.bind_eq_some_iff] at h2
    obtain ⟨p, h3, h4⟩ := h2
    exact ⟨p, _, h3, h4, List.getElem?_eq_getElem hi'⟩
  have hv : ∀ l ∈ sel, l < Hr'.length := fun l hl => by
    obtain ⟨i, hi, hi'⟩ := List.mem_iff_getElem.1 hl
    obtain ⟨p, q, h3, _, _⟩ := hat i l (by rw [List.getElem?_eq_getElem hi, hi'])
    rw [hbl]; exact (List.getElem?_eq_some_iff.1 h3).1
  have hρ := nums_pick (Hr := Hr') hv
  obtain ⟨tl', t1, t2, t3⟩ := lives_ren hρ ht hl
  have hpk := pick_get (Hr := Hr') hv
  have hto : ∀ (i : Nat) jt q, H'[i]? = some jt → (pick sel Hr')[i]? = some q → ∃ l it, sel[i]? = some l ∧ st'.m.H[l]? = some it ∧ renI sel it = some jt ∧ Hr'[l]? = some q := fun i jt q h1 h2 => by
    have hi2 : i < sel.length := by rw [← hlen]; exact (List.getElem?_eq_some_iff.1 h1).1
    obtain ⟨p, q', h3, h4, h5⟩ := hat i sel[i] (List.getElem?_eq_getElem hi2)
    rw [h1] at h5; cases h5
    exact ⟨sel[i], p, List.getElem?_eq_getElem hi2, h3, h4, (hpk i _ (List.getElem?_eq_getElem hi2)).symm.trans h2⟩
  have hBl' : RelB E.rows (nums (pick sel Hr')) H' (pick sel Hr') := by
    refine ⟨by rw [pick_len hv, hlen], fun i jt q h1 h2 => ?_⟩
    obtain ⟨l, it, e1, e2, e3, e4⟩ := hto i jt q h1 h2
    exact RelI.ren hρ e3 (hBl.2 l it q e2 e4)
  have hnod' : Apart H' (pick sel Hr') := by
    have hsn := nodupN_spec hnd
    intro i j it1 jt1 p1 p2 hne h1 h2 l1 l2 q1 q2 z1 z2 hb
    obtain ⟨l, it, e1, e2, e3, e4⟩ := hto i it1 p1 h1 q1
    obtain ⟨m, jt, f1, f2, f3, f4⟩ := hto j jt1 p2 h2 q2
    have hlm : l ≠ m := fun e => by
      subst e
      have hi := (List.getElem?_eq_some_iff.1 e1).1
      exact hne ((List.getElem?_inj hi hsn).1 (e1.trans f1.symm))
    have ho := hnod l m it jt p1 p2 hlm e2 f2 (by rw [← renI_live e3]; exact l1) (by rw [← renI_live f3]; exact l2) e4 f4 z1 z2 hb
    have g1 := renI_owner e3 e1
    have g2 := renI_owner f3 f1
    rw [ho] at g1
    exact (List.getElem?_inj (List.getElem?_eq_some_iff.1 g1).1 hsn).1 (g1.trans g2.symm)
  have hP' : PatSt E.rows (Ds.map markD) live' n ⟨H', [], allW⟩ ⟨vs.toArray, Ds.map markD⟩ (pick sel Hr') :=
    patSt_of (live := live) (st := ⟨tl', ⟨H', [], allW⟩⟩) ⟨vs, rfl, t1, hBl', hnod'⟩ (by rw [t2]; exact hn) t3
  have hsub : ∀ b, b ∈ bs (nums (pick sel Hr')) → b ∈ bs (nums Hr') := fun b hb => by
    rw [mem_bs] at hb ⊢
    obtain ⟨q, hq, e⟩ := hb
    exact ⟨q, nums_pick_mem hq, e⟩
  have hBf : Bun E.rows Ds n0 w0 H' (pick sel Hr') w' := by
   refine ⟨⟨fun i jt q h1 h2 hq => ?_, hB'.own.2.sub hsub⟩, fun D hD => ?_, hB'.nodup, fun b hb hbp => hB'.fresh b (nums_pick_mem hb) hbp, hB'.below, hB'.size⟩
   · obtain ⟨l, it, e1, e2, e3, e4⟩ := hto i jt q h1 h2
     obtain ⟨g1, g2⟩ := hB'.own.1 l it q e2 e4 hq
     exact ⟨g1, fun hlv => g2 (by rw [← renI_live e3]; exact hlv)⟩
   · obtain ⟨q1, q2, q3⟩ := hB'.marks D hD
     exact ⟨q1, fun hm => q2 (hsub _ hm), q3⟩
  exact hk _ _ w' (hP'.wk hwl hwm) (hBf.wk hwm) (stp_sel hnd hv hpre (hI.trans hS))
end
theorem Stp.rfl' {wr : Nat → Bool} {Hr : List RBlk} {w : World} : Stp wr Hr w Hr w := Stp.of_below (Below.refl _ _)
end Go.Proofs.Ytcfomhnfhalmaaa
end

section
set_option linter.unusedVariables false
set_option linter.unusedSimpArgs false
set_option maxRecDepth 100000
namespace Go.Proofs.Ytcfomhnfhalmaaa
open Go.RowKit

/-- A nil slice in a variable, told as an empty row that has no block. -/
theorem nil_rowT {R : Rws} {D : List Deferred} {Ds : List Nat} {n0 : Nat} {w0 w : World} {live : List (Nat × AV)} {n d s : Nat} {H : Mem} {F : Nat → List AV} {e : TypeId} {ds : List Bool} {wr : Nat → Bool} {a : Act} {Hr : List RBlk} (hs : 0 < s) (hkeys : live.all (fun p => Nat.blt p.1 n) = true) (hd : d < n) (hl : look d live = some (.raw (.slice none 0 0)))
    (hP : PatSt R D live n ⟨H, ds, wr⟩ a Hr) (hB : Bun R Ds n0 w0 H Hr w) :
    PatSt R D ((d, .gsl .top H.length 0 0) :: live) n ⟨H ++ [.row 0 s F e none], ds, wr⟩ a (Hr ++ [noBlk s]) ∧ Bun R Ds n0 w0 (H ++ [.row 0 s F e none]) (Hr ++ [noBlk s]) w := by
  obtain ⟨r, vs, e', ht, hBl, hA⟩ := hP
  have hno : (noBlk s).num.ph = false → ∀ {p : Prop}, p := fun h => by rw [noBlk_ph hs] at h; cases h
  have hn : nums (Hr ++ [noBlk s]) = nums Hr ++ [(noBlk s).num] := nums_snoc _ _
  have hq : (nums Hr ++ [(noBlk s).num])[H.length]? = some (noBlk s).num := by
    rw [List.getElem?_append_right (by simp [nums, hBl.1])]; simp [nums, hBl.1]
  have hbs : bs (nums (Hr ++ [noBlk s])) = bs (nums Hr) := by rw [hn]; simp [bs, noBlk_ph hs]
  have hP' : PatSt R D live n ⟨H ++ [.row 0 s F e none], ds, wr⟩ a (Hr ++ [noBlk s]) := ⟨r, vs, e', by rw [hn]; exact ht.grow _, by rw [hn]; exact (hBl.grow _).snoc (.row0 (noBlk_ph hs)), apart_new hA hB.own.1 hBl.1 (fun h => hno h)⟩
  refine ⟨patSt_val hP' hkeys hd hl (fun V hv => by cases hv; exact rel_gsl_no (by rw [hn]; exact hq)), ⟨⟨own_new hB.own.1 hBl.1 (Below.refl _ _) (fun h => hno h), ?_⟩, ?_, hB.nodup, ?_, hB.below, hB.size⟩⟩
  · rw [hbs]; exact hB.own.2
  · rw [hbs]; exact hB.marks
  · intro q hq hqp
    rw [hn] at hq
    rcases List.mem_append.1 hq with h | h
    · exact hB.fresh q h hqp
    · rw [List.mem_singleton.1 h, noBlk_ph hs] at hqp; cases hqp
end Go.Proofs.Ytcfomhnfhalmaaa
end

section
set_option linter.unusedVariables false
set_option linter.unusedSimpArgs false
set_option maxRecDepth 100000
namespace Go.Proofs.Ytcfomhnfhalmaaa
open Go.RowKit

def popTo (L : List V5) (k : Nat) : List V5 := mapN k fun i => L.getD (L.length - 1 - i) z5
theorem pop_len (L : List V5) (k : Nat) : (popTo L k).length = k := mapN_len _ _
theorem pop_next {L : List V5} {k i : Nat} (hi : i < k + 1) : (bif Nat.blt i k then F5 (popTo L k) i else List.take 5 (List.drop ((i - k) * 5) (F5 L (L.length - 1 - k)))) = F5 (popTo L (k + 1)) i := by
  rw [show F5 (popTo L (k + 1)) i = v5 (L.getD (L.length - 1 - i) z5) from F5_mapN hi]
  by_cases h : i < k
  · rw [show Nat.blt i k = true by rw [Nat.blt_eq]; exact h, cond_true]
    exact F5_mapN h
  · obtain rfl : i = k := by omega
    rw [show Nat.blt i i = false by rw [← Bool.not_eq_true, Nat.blt_eq]; omega, cond_false, Nat.sub_self]
    rfl
theorem rpg_a (R : Rws) (L : List V5) (N : Int) : ∀ r, Is (evT (EG R false [] []) 60 (.code (sL (Try.f57.body.getD .skip))) ⟨pat [(0, .gsl .any 0 0 L.length), (1, .int .i64 false (N))] r 0 Try.f57.ntmps, ⟨[.row L.length 5 (F5 L) cvE none], [], (newW 1)⟩⟩ (selK [0] .normal [(0, .gsl .any 0 0 (List.length L)), (1, .int .i64 false N)] Try.f57.ntmps [AIt.row (List.length L) 5 (F5 L) cvE none])) := fun r => ev_selQ (by kernel_rfl)
theorem rpg_b (R : Rws) (L : List V5) (N : Int) (h : AllE [(decide (N < 0), false)]) : ∀ r, Is (evT (EG R false [] []) 60 (.code (sL (sR (Try.f57.body.getD .skip)))) ⟨pat [(0, .gsl .any 0 0 L.length), (1, .int .i64 false (N))] r 0 Try.f57.ntmps, ⟨[.row L.length 5 (F5 L) cvE none], [false], (newW 1)⟩⟩ (selK [0] .normal [(0, .gsl .any 0 0 (List.length L)), (1, .int .i64 false N)] Try.f57.ntmps [AIt.row (List.length L) 5 (F5 L) cvE none])) := fun r => ev_selP (by kernel_rfl) h
theorem rpg_c (R : Rws) (L : List V5) (N : Int) (h : AllE [(decide (N > (↑(List.length L) : Int)), false)]) : ∀ r, Is (evT (EG R false [] []) 60 (.code (sL (sR (sR (Try.f57.body.getD .skip))))) ⟨pat [(0, .gsl .any 0 0 L.length), (1, .int .i64 false (N))] r 0 Try.f57.ntmps, ⟨[.row L.length 5 (F5 L) cvE none], [false], (newW 1)⟩⟩ (selK [0] .normal [(0, .gsl .any 0 0 (List.length L)), (1, .int .i64 false N)] Try.f57.ntmps [AIt.row (List.length L) 5 (F5 L) cvE none])) := fun r => ev_selP (by kernel_rfl) h
theorem rpg_d (R : Rws) (L : List V5) (N : Int) : ∀ r, Is (evT (EG R false [] []) 60 (.code (sL (sR (sR (sR (Try.f57.body.getD .skip)))))) ⟨pat [(0, .gsl .any 0 0 L.length), (1, .int .i64 false (N))] r 0 Try.f57.ntmps, ⟨[.row L.length 5 (F5 L) cvE none], [], (newW 1)⟩⟩ (selK [0] .normal [(0, .gsl .any 0 0 (List.length L)), (1, .int .i64 false N), (7, .raw (Value.slice none 0 0))] Try.f57.ntmps [AIt.row (List.length L) 5 (F5 L) cvE none])) := fun r => ev_selQ (by kernel_rfl)
theorem rpg_e (R : Rws) (L : List V5) (N : Int) (K : Nat) (F : Nat → List AV) : ∀ r, Is (evT (EG R false [] []) 60 (.code (sL (sL (sR (sR (sR (sR (Try.f57.body.getD .skip)))))))) ⟨pat [(0, .gsl .any 0 0 L.length), (1, .int .i64 false (N)), (7, .gsl .top 1 0 (K))] r 0 Try.f57.ntmps, ⟨[.row L.length 5 (F5 L) cvE none, .row (K) 5 (F) cvE none], [], (newW 1)⟩⟩ (selK [0, 1] .normal [(0, .gsl .any 0 0 (List.length L)), (1, .int .i64 false N), (7, .gsl .top 1 0 K), (8, .int .i64 true 0)] Try.f57.ntmps [AIt.row (List.length L) 5 (F5 L) cvE none, AIt.row K 5 F cvE none])) := fun r => ev_selQ (by kernel_rfl)
theorem rpg_l (R : Rws) (L : List V5) (N : Int) (K : Nat) (F : Nat → List AV) (k : Int) (h : AllE [(decide (k < N), true), (decide (0 ≤ IntKind.wrap IntKind.i64 (IntKind.wrap IntKind.i64 ((↑(List.length L) : Int) - 1) - k) ∧ IntKind.wrap IntKind.i64 (IntKind.wrap IntKind.i64 ((↑(List.length L) : Int) - 1) - k) < (↑(List.length L) : Int)), true), (decide (0 ≤ (↑0 : Int) + IntKind.wrap IntKind.i64 (IntKind.wrap IntKind.i64 ((↑(List.length L) : Int) - 1) - k) ∧ (↑0 : Int) + IntKind.wrap IntKind.i64 (IntKind.wrap IntKind.i64 ((↑(List.length L) : Int) - 1) - k) < (↑(List.length L) : Int)), true), (decide (K ≤ K), true), (decide (K + 1 ≤ 1000000), true)]) : ∀ r, Is (evT (EG R false [] []) 60 (.code (lpB (bkB (sR (sL (sR (sR (sR (sR (Try.f57.body.getD .skip)))))))))) ⟨pat [(0, .gsl .any 0 0 L.length), (1, .int .i64 false (N)), (7, .gsl .top 1 0 (K)), (8, .int .i64 false (k))] r 0 Try.f57.ntmps, ⟨[.row L.length 5 (F5 L) cvE none, .row (K) 5 (F) cvE none], [true], (newW 1)⟩⟩ (selK [0, 3] .normal [(0, .gsl .any 0 0 (List.length L)), (1, .int .i64 false N), (7, .gsl .top 1 0 (K + 1)), (8, .int .i64 false (IntKind.wrap .i64 (k + 1)))] Try.f57.ntmps [AIt.row (List.length L) 5 (F5 L) cvE none, .row (K + 1) 5 (fun i => bif Nat.blt i K then F i else List.take 5 (List.drop ((i - K) * 5) (F5 L (Int.toNat ((0 : Int) + IntKind.wrap IntKind.i64 (IntKind.wrap IntKind.i64 ((L.length : Int) - 1) - k)))))) cvE none])) := fun r => ev_selP (by kernel_rfl) h
theorem rpg_x (R : Rws) (L : List V5) (N : Int) (K : Nat) (F : Nat → List AV) (k : Int) (h : AllE [(decide (k < N), false)]) : ∀ r, Is (evT (EG R false [] []) 60 (.code (lpB (bkB (sR (sL (sR (sR (sR (sR (Try.f57.body.getD .skip)))))))))) ⟨pat [(0, .gsl .any 0 0 L.length), (1, .int .i64 false (N)), (7, .gsl .top 1 0 (K)), (8, .int .i64 false (k))] r 0 Try.f57.ntmps, ⟨[.row L.length 5 (F5 L) cvE none, .row (K) 5 (F) cvE none], [false], (newW 1)⟩⟩ (selK [0, 1] (.exit 0) [(0, .gsl .any 0 0 (List.length L)), (1, .int .i64 false N), (7, .gsl .top 1 0 K)] Try.f57.ntmps [AIt.row (List.length L) 5 (F5 L) cvE none, AIt.row K 5 F cvE none])) := fun r => ev_selP (by kernel_rfl) h
theorem rpg_z (R : Rws) (L : List V5) (N : Int) (K : Nat) (F : Nat → List AV) (h : AllE [(decide ((0 : Int) ≤ 0 ∧ 0 ≤ IntKind.wrap IntKind.i64 ((↑(List.length L) : Int) - N) ∧ IntKind.wrap IntKind.i64 ((↑(List.length L) : Int) - N) ≤ (↑(List.length L) : Int)), true), (decide (Int.toNat (IntKind.wrap IntKind.i64 ((↑(List.length L) : Int) - N) - 0) ≤ 1000000), true), (decide (0 + Int.toNat 0 + Int.toNat (IntKind.wrap IntKind.i64 ((↑(List.length L) : Int) - N) - 0) ≤ List.length L), true)]) : ∀ r, Is (evT (EG R false [] []) 60 (.code (sR (sR (sR (sR (sR (Try.f57.body.getD .skip))))))) ⟨pat [(0, .gsl .any 0 0 L.length), (1, .int .i64 false (N)), (7, .gsl .top 1 0 (K))] r 0 Try.f57.ntmps, ⟨[.row L.length 5 (F5 L) cvE none, .row (K) 5 (F) cvE none], [], (newW 1)⟩⟩ (selK [0, 1, 3] .ret [(4, .gsl .top 2 0 (Int.toNat (IntKind.wrap .i64 ((↑(List.length L) : Int) - N) - 0))), (5, .gsl .top 1 0 K), (6, .int .i64 true 0)] Try.f57.ntmps [AIt.row (List.length L) 5 (F5 L) cvE none, AIt.row K 5 F cvE none, .row (Int.toNat (IntKind.wrap IntKind.i64 ((L.length : Int) - N) - 0)) 5 (fun i => F5 L (0 + Int.toNat 0 + i)) cvE none])) := fun r => ev_selP (by kernel_rfl) h
noncomputable def rpGS (L : List V5) : SmF
  | [.gsl _ 0 0 m, .int .i64 _ N], [.row N0 5 F e none] => some (.tuple [.gsl .any 2 0 (m - N.toNat), .gsl .any 1 0 N.toNat, .int .i64 true 0], [.row m 5 (F5 L) e none, .row N.toNat 5 (F5 (popTo L N.toNat)) cvE none, .row (m - N.toNat) 5 (F5 (takeL L (m - N.toNat))) cvE none], [decide (0 ≤ N ∧ N ≤ m), rowIs F m L, decide (m ≤ N0), decide (m ≤ 100000), decide (e = cvE)])
  | _, _ => none
set_option maxHeartbeats 1000000 in
theorem rpGS_ok {R : Rws} (hR : RwOK R) (L : List V5) : GoodR Try.prog R 57 (rpGS L) := by
  refine ⟨enters_of Try.func57 (by kernel_rfl) rfl, fun args H v H' cs h hcs Hr w Args hA hB hn hO => ?_⟩
  unfold rpGS at h
  split at h
  case h_2 => cases h
  rename_i k m l N N0 F e
  cases h
  simp only [List.mem_cons, List.not_mem_nil, or_false, forall_eq_or_imp, forall_eq] at hcs
  obtain ⟨c1, c2, c3, c4, c5⟩ := hcs
  have c1 := of_decide_eq_true c1
  have c3 := of_decide_eq_true c3
  have c4 := of_decide_eq_true c4
  have c5 := of_decide_eq_true c5
  obtain ⟨d1, d2⟩ := rowIs_spec c2
  subst d1 c5
  have hE := EG_ok (R := R) hR false good_nil goodM_nil
  refine ev_enterH (E := EG R false [] []) (fn := Try.f57) (c := (Try.f57.body.getD .skip)) Try.func57 (by kernel_rfl) (args := [.gsl k 0 0 L.length, .int .i64 l N]) (show 2 ≤ Try.f57.ntmps by decide) hA hB hn hO (ds := []) (wr := (newW 1)) fun a0 hP0' hB0' => ?_
  have hl3 : Hr.length = 1 := hB.1
  have hW : wkM [.row N0 5 F cvE none] [.row L.length 5 (F5 L) cvE none] := ⟨⟨c3, rfl, rfl, rfl, d2⟩, trivial⟩
  have hP0 := hP0'.wk (live' := [(0, .gsl .any 0 0 L.length), (1, .int .i64 false (N))]) (ds' := []) (wr' := (newW 1)) ⟨rfl, wkA_any, rfl, wkA_int, trivial⟩ hW
  have hB0 := hB0'.wk hW
  refine wp_parts (by kernel_rfl) (ev_codeWP hE 60 [0] .normal (by decide) (Hr0 := Hr) (w00 := w) (by rw [hl3]; rfl) (rpg_a R L N) (wkV.refl _) (wkM.refl _) hP0 hB0 (Stp.rfl') fun a1 Hr1 w1 hP1 hB1 hT1 => ?_)
  refine wp_parts (by kernel_rfl) (ev_codeWP hE 60 [0] .normal (by decide) (Hr0 := Hr) (w00 := w) (by rw [hl3]; rfl) (rpg_b R L N (allE_cons (by first | exact decide_eq_false (by omega) | exact decide_eq_false (by simp only [List.length_map, List.length_range]; omega) | exact decide_eq_false (by simp only [IntKind.wrap_i64]; omega)) allE_nil)) (wkV.refl _) (wkM.refl _) hP1 hB1 hT1 fun a2 Hr2 w2 hP2 hB2 hT2 => ?_)
  refine wp_parts (by kernel_rfl) (ev_codeWP hE 60 [0] .normal (by decide) (Hr0 := Hr) (w00 := w) (by rw [hl3]; rfl) (rpg_c R L N (allE_cons (by first | exact decide_eq_false (by omega) | exact decide_eq_false (by simp only [List.length_map, List.length_range]; omega) | exact decide_eq_false (by simp only [IntKind.wrap_i64]; omega)) allE_nil)) (wkV.refl _) (wkM.refl _) hP2 hB2 hT2 fun a3 Hr3 w3 hP3 hB3 hT3 => ?_)
  refine wp_parts (by kernel_rfl) (ev_codeWP hE 60 [0] .normal (by decide) (Hr0 := Hr) (w00 := w) (by rw [hl3]; rfl) (rpg_d R L N) (wkV.refl _) (wkM.refl _) hP3 hB3 hT3 fun a4 Hr4 w4 hP4 hB4 hT4 => ?_)
  have hl4 : Hr4.length = 1 := by obtain ⟨_, _, _, _, hb, _⟩ := hP4; exact hb.1
  obtain ⟨hP4', hB4'⟩ := nil_rowT (d := 7) (s := 5) (F := F5 (popTo L 0)) (e := cvE) (by decide) (by kernel_rfl) (show 7 < Try.f57.ntmps by decide) rfl hP4 hB4
  have hP4 : PatSt R ([].map markD) [(0, .gsl .any 0 0 L.length), (1, .int .i64 false (N)), (7, .gsl .top 1 0 (0))] Try.f57.ntmps ⟨[.row L.length 5 (F5 L) cvE none, .row (0) 5 (F5 (popTo L (0))) cvE none], [], allW⟩ a4 (Hr4 ++ [noBlk 5]) := patSt_live hP4' (looks_of (by rfl)) (by kernel_rfl)
  have hB4 : Bun R [] 0 w [.row L.length 5 (F5 L) cvE none, .row (0) 5 (F5 (popTo L (0))) cvE none] (Hr4 ++ [noBlk 5]) w4 := hB4'
  have hT4 : Stp (newW 1) Hr w (Hr4 ++ [noBlk 5]) w4 := by
    obtain ⟨σ, e1, n1⟩ := hT4.ext
    refine ⟨hT4.os, hT4.tape, hT4.output, hT4.size, ⟨σ ++ [(noBlk 5).num], by rw [nums_snoc, e1, List.append_assoc], fun q hq hp => ?_⟩, hT4.block⟩
    rcases List.mem_append.1 hq with h | h
    · exact n1 q h hp
    · rw [List.mem_singleton.1 h] at hp; rw [noBlk_ph (by decide)] at hp; cases hp
  refine wp_parts (by kernel_rfl) (wp_parts (by kernel_rfl) (ev_codeWP hE 60 [0, 1] .normal (by decide) (Hr0 := Hr) (w00 := w) (by rw [hl3]; rfl) (rpg_e R L N 0 (F5 (popTo L 0))) (live'' := [(0, .gsl .any 0 0 L.length), (1, .int .i64 false (N)), (7, .gsl .top 1 0 (0)), (8, .int .i64 false (((0 : Nat) : Int)))]) ⟨rfl, wkA.refl _, rfl, wkA.refl _, rfl, wkA.refl _, rfl, wkA_int, trivial⟩ (wkM.refl _) hP4 hB4 hT4 fun a5 Hr5 w5 hP5 hB5 hT5 => ?_))
  refine wp_bk (by kernel_rfl) ?_
  refine ev_loopI (by kernel_rfl) (fun Hr' w' => Stp (newW 1) Hr w Hr' w') N.toNat (.exit 0) rfl (fun k : Nat => [(0, .gsl .any 0 0 L.length), (1, .int .i64 false (N)), (7, .gsl .top 1 0 (k)), (8, .int .i64 false ((k : Int)))]) (fun k : Nat => [.row L.length 5 (F5 L) cvE none, .row (k) 5 (F5 (popTo L (k))) cvE none]) (live' := [(0, .gsl .any 0 0 L.length), (1, .int .i64 false (N)), (7, .gsl .top 1 0 (N.toNat))]) (H' := [.row L.length 5 (F5 L) cvE none, .row (N.toNat) 5 (F5 (popTo L (N.toNat))) cvE none]) (fun k hk a5 Hr5 w5 Q' hP5 hB5 hI hnx => ?_) (fun a5 Hr5 w5 Q' hP5 hB5 hI hnx => ?_) hP5 hB5 hT5 fun a6 Hr6 w6 hP6 hB6 hI => ?_
  · have e1 : ((0 : Int) + IntKind.wrap IntKind.i64 (IntKind.wrap IntKind.i64 ((L.length : Int) - 1) - (k : Int))).toNat = L.length - 1 - k := by simp only [IntKind.wrap_i64]; omega
    refine ev_codeWP hE 60 [0, 3] .normal (by decide) (Hr0 := Hr) (w00 := w) (by rw [hl3]; rfl) (rpg_l R L N k (F5 (popTo L k)) (k : Int) (allE_cons (by first | exact decide_eq_true (by omega) | exact decide_eq_true (by simp only [List.length_map, List.length_range]; omega) | exact decide_eq_true (by simp only [IntKind.wrap_i64]; omega)) (allE_cons (by first | exact decide_eq_true (by omega) | exact decide_eq_true (by simp only [List.length_map, List.length_range]; omega) | exact decide_eq_true (by simp only [IntKind.wrap_i64]; omega)) (allE_cons (by first | exact decide_eq_true (by omega) | exact decide_eq_true (by simp only [List.length_map, List.length_range]; omega) | exact decide_eq_true (by simp only [IntKind.wrap_i64]; omega)) (allE_cons (by first | exact decide_eq_true (by omega) | exact decide_eq_true (by simp only [List.length_map, List.length_range]; omega) | exact decide_eq_true (by simp only [IntKind.wrap_i64]; omega)) (allE_cons (by first | exact decide_eq_true (by omega) | exact decide_eq_true (by simp only [List.length_map, List.length_range]; omega) | exact decide_eq_true (by simp only [IntKind.wrap_i64]; omega)) allE_nil)))))) (live'' := [(0, .gsl .any 0 0 L.length), (1, .int .i64 false (N)), (7, .gsl .top 1 0 (k + 1)), (8, .int .i64 false (((k + 1 : Nat) : Int)))]) ⟨rfl, wkA.refl _, rfl, wkA.refl _, rfl, wkA.refl _, rfl, wkA_intE (by rw [IntKind.wrap_i64]; omega), trivial⟩ (H'' := [.row L.length 5 (F5 L) cvE none, .row (k + 1) 5 (F5 (popTo L (k + 1))) cvE none]) ⟨wkI.refl _, wkI_row (Nat.le_refl _) (fun i hi => by rw [e1]; exact pop_next hi), trivial⟩ hP5 hB5 hI fun a6 Hr6 w6 hP6 hB6 hT6 => ?_
    exact hnx _ _ _ hP6 hB6 hT6
  · refine ev_codeWP hE 60 [0, 1] (.exit 0) (by decide) (Hr0 := Hr) (w00 := w) (by rw [hl3]; rfl) (rpg_x R L N N.toNat (F5 (popTo L N.toNat)) (N.toNat : Int) (allE_cons (by first | exact decide_eq_false (by omega) | exact decide_eq_false (by simp only [List.length_map, List.length_range]; omega) | exact decide_eq_false (by simp only [IntKind.wrap_i64]; omega)) allE_nil)) (wkV.refl _) (wkM.refl _) hP5 hB5 hI fun a6 Hr6 w6 hP6 hB6 hT6 => ?_
    exact hnx _ _ _ hP6 hB6 hT6
  have hw1 : Int.toNat (IntKind.wrap IntKind.i64 ((L.length : Int) - N) - 0) = L.length - N.toNat := by rw [IntKind.wrap_i64]; omega
  refine ev_codeWP hE 60 [0, 1, 3] .ret (by decide) (Hr0 := Hr) (w00 := w) (by rw [hl3]; rfl) (rpg_z R L N N.toNat (F5 (popTo L N.toNat)) (allE_cons (by first | exact decide_eq_true (by omega) | exact decide_eq_true (by simp only [List.length_map, List.length_range]; omega) | exact decide_eq_true (by simp only [IntKind.wrap_i64]; omega)) (allE_cons (by first | exact decide_eq_true (by omega) | exact decide_eq_true (by simp only [List.length_map, List.length_range]; omega) | exact decide_eq_true (by simp only [IntKind.wrap_i64]; omega)) (allE_cons (by first | exact decide_eq_true (by omega) | exact decide_eq_true (by simp only [List.length_map, List.length_range]; omega) | exact decide_eq_true (by simp only [IntKind.wrap_i64]; omega)) allE_nil)))) (live'' := [(4, .gsl .any 2 0 (L.length - N.toNat)), (5, .gsl .any 1 0 N.toNat), (6, .int .i64 true 0)]) ⟨rfl, wkA.trans wkA_any (wkA_eq (by rw [hw1])), rfl, wkA_any, rfl, wkA.refl _, trivial⟩ (H'' := [.row L.length 5 (F5 L) cvE none, .row (N.toNat) 5 (F5 (popTo L N.toNat)) cvE none, .row (L.length - N.toNat) 5 (F5 (takeL L (L.length - N.toNat))) cvE none]) ⟨wkI.refl _, wkI.refl _, wkI_row (Nat.le_of_eq hw1.symm) (fun i hi => by rw [show 0 + Int.toNat 0 + i = i by simp]; unfold takeL; rw [F5_mapN (by omega)]; rfl), trivial⟩ hP6 hB6 hI fun a7 Hr7 w7 hP7 hB7 hT7 => ?_
  obtain ⟨rr, vv, _, _, hBl, hAp⟩ := id hP7
  exact ev_endR hE (vs := [_, _, _]) (fun rs => by kernel_rfl) hP7 hB7 (fun V hv => ⟨V, Hr7, rfl, hv, hBl, hAp, hB7.own, hT7⟩) (.inl rfl)
theorem rpr_a (A0 : Option Addr) (Rt : List RowI) (c : Nat) (L : List V5) (N : Int) : ∀ r, Is (evT (EG (rws (mkRow A0 L.length 5 (F5 L) :: Rt)) false [] []) 60 (.code (sL (Try.f57.body.getD .skip))) ⟨pat [(0, .rsl 0 L.length c), (1, .int .i64 false (N))] r 0 Try.f57.ntmps, ⟨[], [], (newW 0)⟩⟩ (selK [] .normal [(0, .rsl 0 (List.length L) c), (1, .int .i64 false N)] Try.f57.ntmps [])) := fun r => ev_selQ (by kernel_rfl)
theorem rpr_b (A0 : Option Addr) (Rt : List RowI) (c : Nat) (L : List V5) (N : Int) (h : AllE [(decide (N < 0), false)]) : ∀ r, Is (evT (EG (rws (mkRow A0 L.length 5 (F5 L) :: Rt)) false [] []) 60 (.code (sL (sR (Try.f57.body.getD .skip)))) ⟨pat [(0, .rsl 0 L.length c), (1, .int .i64 false (N))] r 0 Try.f57.ntmps, ⟨[], [false], (newW 0)⟩⟩ (selK [] .normal [(0, .rsl 0 (List.length L) c), (1, .int .i64 false N)] Try.f57.ntmps [])) := fun r => ev_selP (by kernel_rfl) h
theorem rpr_c (A0 : Option Addr) (Rt : List RowI) (c : Nat) (L : List V5) (N : Int) (h : AllE [(decide (N > (↑(List.length L) : Int)), false)]) : ∀ r, Is (evT (EG (rws (mkRow A0 L.length 5 (F5 L) :: Rt)) false [] []) 60 (.code (sL (sR (sR (Try.f57.body.getD .skip))))) ⟨pat [(0, .rsl 0 L.length c), (1, .int .i64 false (N))] r 0 Try.f57.ntmps, ⟨[], [false], (newW 0)⟩⟩ (selK [] .normal [(0, .rsl 0 (List.length L) c), (1, .int .i64 false N)] Try.f57.ntmps [])) := fun r => ev_selP (by kernel_rfl) h
theorem rpr_d (A0 : Option Addr) (Rt : List RowI) (c : Nat) (L : List V5) (N : Int) : ∀ r, Is (evT (EG (rws (mkRow A0 L.length 5 (F5 L) :: Rt)) false [] []) 60 (.code (sL (sR (sR (sR (Try.f57.body.getD .skip)))))) ⟨pat [(0, .rsl 0 L.length c), (1, .int .i64 false (N))] r 0 Try.f57.ntmps, ⟨[], [], (newW 0)⟩⟩ (selK [] .normal [(0, .rsl 0 (List.length L) c), (1, .int .i64 false N), (7, .raw (Value.slice none 0 0))] Try.f57.ntmps [])) := fun r => ev_selQ (by kernel_rfl)
theorem rpr_e (A0 : Option Addr) (Rt : List RowI) (c : Nat) (L : List V5) (N : Int) (K : Nat) (F : Nat → List AV) : ∀ r, Is (evT (EG (rws (mkRow A0 L.length 5 (F5 L) :: Rt)) false [] []) 60 (.code (sL (sL (sR (sR (sR (sR (Try.f57.body.getD .skip)))))))) ⟨pat [(0, .rsl 0 L.length c), (1, .int .i64 false (N)), (7, .gsl .top 0 0 (K))] r 0 Try.f57.ntmps, ⟨[.row (K) 5 (F) cvE none], [], (newW 0)⟩⟩ (selK [0] .normal [(0, .rsl 0 (List.length L) c), (1, .int .i64 false N), (7, .gsl .top 0 0 K), (8, .int .i64 true 0)] Try.f57.ntmps [AIt.row K 5 F cvE none])) := fun r => ev_selQ (by kernel_rfl)
theorem rpr_l (A0 : Option Addr) (Rt : List RowI) (c : Nat) (L : List V5) (N : Int) (K : Nat) (F : Nat → List AV) (k : Int) (h : AllE [(decide (k < N), true), (decide (0 ≤ IntKind.wrap IntKind.i64 (IntKind.wrap IntKind.i64 ((↑(List.length L) : Int) - 1) - k) ∧ IntKind.wrap IntKind.i64 (IntKind.wrap IntKind.i64 ((↑(List.length L) : Int) - 1) - k) < (↑(List.length L) : Int)), true), (decide (K ≤ K), true), (decide (K + 1 ≤ 1000000), true)]) : ∀ r, Is (evT (EG (rws (mkRow A0 L.length 5 (F5 L) :: Rt)) false [] []) 60 (.code (lpB (bkB (sR (sL (sR (sR (sR (sR (Try.f57.body.getD .skip)))))))))) ⟨pat [(0, .rsl 0 L.length c), (1, .int .i64 false (N)), (7, .gsl .top 0 0 (K)), (8, .int .i64 false (k))] r 0 Try.f57.ntmps, ⟨[.row (K) 5 (F) cvE none], [true], (newW 0)⟩⟩ (selK [2] .normal [(0, .rsl 0 (List.length L) c), (1, .int .i64 false N), (7, .gsl .top 0 0 (K + 1)), (8, .int .i64 false (IntKind.wrap .i64 (k + 1)))] Try.f57.ntmps [.row (K + 1) 5 (fun i => bif Nat.blt i K then F i else List.take 5 (List.drop ((i - K) * 5) (F5 L (Int.toNat (IntKind.wrap IntKind.i64 (IntKind.wrap IntKind.i64 ((L.length : Int) - 1) - k)))))) cvE none])) := fun r => ev_selP (by kernel_rfl) h
theorem rpr_x (A0 : Option Addr) (Rt : List RowI) (c : Nat) (L : List V5) (N : Int) (K : Nat) (F : Nat → List AV) (k : Int) (h : AllE [(decide (k < N), false)]) : ∀ r, Is (evT (EG (rws (mkRow A0 L.length 5 (F5 L) :: Rt)) false [] []) 60 (.code (lpB (bkB (sR (sL (sR (sR (sR (sR (Try.f57.body.getD .skip)))))))))) ⟨pat [(0, .rsl 0 L.length c), (1, .int .i64 false (N)), (7, .gsl .top 0 0 (K)), (8, .int .i64 false (k))] r 0 Try.f57.ntmps, ⟨[.row (K) 5 (F) cvE none], [false], (newW 0)⟩⟩ (selK [0] (.exit 0) [(0, .rsl 0 (List.length L) c), (1, .int .i64 false N), (7, .gsl .top 0 0 K)] Try.f57.ntmps [AIt.row K 5 F cvE none])) := fun r => ev_selP (by kernel_rfl) h
theorem rpr_z (A0 : Option Addr) (Rt : List RowI) (c : Nat) (L : List V5) (N : Int) (K : Nat) (F : Nat → List AV) (h : AllE [(decide ((0 : Int) ≤ 0 ∧ 0 ≤ IntKind.wrap IntKind.i64 ((↑(List.length L) : Int) - N) ∧ IntKind.wrap IntKind.i64 ((↑(List.length L) : Int) - N) ≤ (↑(List.length L) : Int)), true), (decide (Int.toNat (IntKind.wrap IntKind.i64 ((↑(List.length L) : Int) - N) - 0) ≤ 1000000), true)]) : ∀ r, Is (evT (EG (rws (mkRow A0 L.length 5 (F5 L) :: Rt)) false [] []) 60 (.code (sR (sR (sR (sR (sR (Try.f57.body.getD .skip))))))) ⟨pat [(0, .rsl 0 L.length c), (1, .int .i64 false (N)), (7, .gsl .top 0 0 (K))] r 0 Try.f57.ntmps, ⟨[.row (K) 5 (F) cvE none], [], (newW 0)⟩⟩ (selK [0, 2] .ret [(4, .gsl .top 1 0 (Int.toNat (IntKind.wrap .i64 ((↑(List.length L) : Int) - N) - 0))), (5, .gsl .top 0 0 K), (6, .int .i64 true 0)] Try.f57.ntmps [AIt.row K 5 F cvE none, .row (Int.toNat (IntKind.wrap IntKind.i64 ((L.length : Int) - N) - 0)) 5 (fun i => F5 L (((0 + Int.toNat 0 + i : Nat) : Int)).toNat) cvE none])) := fun r => ev_selP (by kernel_rfl) h
noncomputable def rpRS (L : List V5) : SmF
  | [.rsl 0 m _, .int .i64 _ N], [] => some (.tuple [.gsl .any 1 0 (m - N.toNat), .gsl .any 0 0 N.toNat, .int .i64 true 0], [.row N.toNat 5 (F5 (popTo L N.toNat)) cvE none, .row (m - N.toNat) 5 (F5 (takeL L (m - N.toNat))) cvE none], [decide (0 ≤ N ∧ N ≤ m), decide (m = L.length), decide (m ≤ 100000)])
  | _, _ => none
set_option maxHeartbeats 1000000 in
theorem rpRS_ok (A0 : Option Addr) (Rt : List RowI) (L : List V5) (hR : RwOK (rws (mkRow A0 L.length 5 (F5 L) :: Rt))) : GoodR Try.prog (rws (mkRow A0 L.length 5 (F5 L) :: Rt)) 57 (rpRS L) := by
  refine ⟨enters_of Try.func57 (by kernel_rfl) rfl, fun args H v H' cs h hcs Hr w Args hA hB hn hO => ?_⟩
  unfold rpRS at h
  split at h
  case h_2 => cases h
  rename_i m c l N
  cases h
  simp only [List.mem_cons, List.not_mem_nil, or_false, forall_eq_or_imp, forall_eq] at hcs
  obtain ⟨c1, c2, c4⟩ := hcs
  have c1 := of_decide_eq_true c1
  have c2 := of_decide_eq_true c2
  have c4 := of_decide_eq_true c4
  subst c2
  have hE := EG_ok (R := (rws (mkRow A0 L.length 5 (F5 L) :: Rt))) hR false good_nil goodM_nil
  refine ev_enterH (E := EG (rws (mkRow A0 L.length 5 (F5 L) :: Rt)) false [] []) (fn := Try.f57) (c := (Try.f57.body.getD .skip)) Try.func57 (by kernel_rfl) (args := [.rsl 0 L.length c, .int .i64 l N]) (show 2 ≤ Try.f57.ntmps by decide) hA hB hn hO (ds := []) (wr := (newW 0)) fun a0 hP0' hB0' => ?_
  have hl3 : Hr.length = 0 := hB.1
  have hW : wkM [] [] := trivial
  have hP0 := hP0'.wk (live' := [(0, .rsl 0 L.length c), (1, .int .i64 false (N))]) (ds' := []) (wr' := (newW 0)) ⟨rfl, wkA.refl _, rfl, wkA_int, trivial⟩ hW
  have hB0 := hB0'.wk hW
  refine wp_parts (by kernel_rfl) (ev_codeWP hE 60 [] .normal (by decide) (Hr0 := Hr) (w00 := w) (by rw [hl3]; rfl) (rpr_a A0 Rt c L N) (wkV.refl _) (wkM.refl _) hP0 hB0 (Stp.rfl') fun a1 Hr1 w1 hP1 hB1 hT1 => ?_)
  refine wp_parts (by kernel_rfl) (ev_codeWP hE 60 [] .normal (by decide) (Hr0 := Hr) (w00 := w) (by rw [hl3]; rfl) (rpr_b A0 Rt c L N (allE_cons (by first | exact decide_eq_false (by omega) | exact decide_eq_false (by simp only [List.length_map, List.length_range]; omega) | exact decide_eq_false (by simp only [IntKind.wrap_i64]; omega)) allE_nil)) (wkV.refl _) (wkM.refl _) hP1 hB1 hT1 fun a2 Hr2 w2 hP2 hB2 hT2 => ?_)
  refine wp_parts (by kernel_rfl) (ev_codeWP hE 60 [] .normal (by decide) (Hr0 := Hr) (w00 := w) (by rw [hl3]; rfl) (rpr_c A0 Rt c L N (allE_cons (by first | exact decide_eq_false (by omega) | exact decide_eq_false (by simp only [List.length_map, List.length_range]; omega) | exact decide_eq_false (by simp only [IntKind.wrap_i64]; omega)) allE_nil)) (wkV.refl _) (wkM.refl _) hP2 hB2 hT2 fun a3 Hr3 w3 hP3 hB3 hT3 => ?_)
  refine wp_parts (by kernel_rfl) (ev_codeWP hE 60 [] .normal (by decide) (Hr0 := Hr) (w00 := w) (by rw [hl3]; rfl) (rpr_d A0 Rt c L N) (wkV.refl _) (wkM.refl _) hP3 hB3 hT3 fun a4 Hr4 w4 hP4 hB4 hT4 => ?_)
  have hl4 : Hr4.length = 0 := by obtain ⟨_, _, _, _, hb, _⟩ := hP4; exact hb.1
  obtain ⟨hP4', hB4'⟩ := nil_rowT (d := 7) (s := 5) (F := F5 (popTo L 0)) (e := cvE) (by decide) (by kernel_rfl) (show 7 < Try.f57.ntmps by decide) rfl hP4 hB4
  have hP4 : PatSt (rws (mkRow A0 L.length 5 (F5 L) :: Rt)) ([].map markD) [(0, .rsl 0 L.length c), (1, .int .i64 false (N)), (7, .gsl .top 0 0 (0))] Try.f57.ntmps ⟨[.row (0) 5 (F5 (popTo L (0))) cvE none], [], allW⟩ a4 (Hr4 ++ [noBlk 5]) := patSt_live hP4' (looks_of (by rfl)) (by kernel_rfl)
  have hB4 : Bun (rws (mkRow A0 L.length 5 (F5 L) :: Rt)) [] 0 w [.row (0) 5 (F5 (popTo L (0))) cvE none] (Hr4 ++ [noBlk 5]) w4 := hB4'
  have hT4 : Stp (newW 0) Hr w (Hr4 ++ [noBlk 5]) w4 := by
    obtain ⟨σ, e1, n1⟩ := hT4.ext
    refine ⟨hT4.os, hT4.tape, hT4.output, hT4.size, ⟨σ ++ [(noBlk 5).num], by rw [nums_snoc, e1, List.append_assoc], fun q hq hp => ?_⟩, hT4.block⟩
    rcases List.mem_append.1 hq with h | h
    · exact n1 q h hp
    · rw [List.mem_singleton.1 h] at hp; rw [noBlk_ph (by decide)] at hp; cases hp
  refine wp_parts (by kernel_rfl) (wp_parts (by kernel_rfl) (ev_codeWP hE 60 [0] .normal (by decide) (Hr0 := Hr) (w00 := w) (by rw [hl3]; rfl) (rpr_e A0 Rt c L N 0 (F5 (popTo L 0))) (live'' := [(0, .rsl 0 L.length c), (1, .int .i64 false (N)), (7, .gsl .top 0 0 (0)), (8, .int .i64 false (((0 : Nat) : Int)))]) ⟨rfl, wkA.refl _, rfl, wkA.refl _, rfl, wkA.refl _, rfl, wkA_int, trivial⟩ (wkM.refl _) hP4 hB4 hT4 fun a5 Hr5 w5 hP5 hB5 hT5 => ?_))
  refine wp_bk (by kernel_rfl) ?_
  refine ev_loopI (by kernel_rfl) (fun Hr' w' => Stp (newW 0) Hr w Hr' w') N.toNat (.exit 0) rfl (fun k : Nat => [(0, .rsl 0 L.length c), (1, .int .i64 false (N)), (7, .gsl .top 0 0 (k)), (8, .int .i64 false ((k : Int)))]) (fun k : Nat => [.row (k) 5 (F5 (popTo L (k))) cvE none]) (live' := [(0, .rsl 0 L.length c), (1, .int .i64 false (N)), (7, .gsl .top 0 0 (N.toNat))]) (H' := [.row (N.toNat) 5 (F5 (popTo L (N.toNat))) cvE none]) (fun k hk a5 Hr5 w5 Q' hP5 hB5 hI hnx => ?_) (fun a5 Hr5 w5 Q' hP5 hB5 hI hnx => ?_) hP5 hB5 hT5 fun a6 Hr6 w6 hP6 hB6 hI => ?_
  · have e1 : (IntKind.wrap IntKind.i64 (IntKind.wrap IntKind.i64 ((L.length : Int) - 1) - (k : Int))).toNat = L.length - 1 - k := by simp only [IntKind.wrap_i64]; omega
    refine ev_codeWP hE 60 [2] .normal (by decide) (Hr0 := Hr) (w00 := w) (by rw [hl3]; rfl) (rpr_l A0 Rt c L N k (F5 (popTo L k)) (k : Int) (allE_cons (by first | exact decide_eq_true (by omega) | exact decide_eq_true (by simp only [List.length_map, List.length_range]; omega) | exact decide_eq_true (by simp only [IntKind.wrap_i64]; omega)) (allE_cons (by first | exact decide_eq_true (by omega) | exact decide_eq_true (by simp only [List.length_map, List.length_range]; omega) | exact decide_eq_true (by simp only [IntKind.wrap_i64]; omega)) (allE_cons (by first | exact decide_eq_true (by omega) | exact decide_eq_true (by simp only [List.length_map, List.length_range]; omega) | exact decide_eq_true (by simp only [IntKind.wrap_i64]; omega)) (allE_cons (by first | exact decide_eq_true (by omega) | exact decide_eq_true (by simp only [List.length_map, List.length_range]; omega) | exact decide_eq_true (by simp only [IntKind.wrap_i64]; omega)) allE_nil))))) (live'' := [(0, .rsl 0 L.length c), (1, .int .i64 false (N)), (7, .gsl .top 0 0 (k + 1)), (8, .int .i64 false (((k + 1 : Nat) : Int)))]) ⟨rfl, wkA.refl _, rfl, wkA.refl _, rfl, wkA.refl _, rfl, wkA_intE (by rw [IntKind.wrap_i64]; omega), trivial⟩ (H'' := [.row (k + 1) 5 (F5 (popTo L (k + 1))) cvE none]) ⟨wkI_row (Nat.le_refl _) (fun i hi => by rw [e1]; exact pop_next hi), trivial⟩ hP5 hB5 hI fun a6 Hr6 w6 hP6 hB6 hT6 => ?_
    exact hnx _ _ _ hP6 hB6 hT6
  · refine ev_codeWP hE 60 [0] (.exit 0) (by decide) (Hr0 := Hr) (w00 := w) (by rw [hl3]; rfl) (rpr_x A0 Rt c L N N.toNat (F5 (popTo L N.toNat)) (N.toNat : Int) (allE_cons (by first | exact decide_eq_false (by omega) | exact decide_eq_false (by simp only [List.length_map, List.length_range]; omega) | exact decide_eq_false (by simp only [IntKind.wrap_i64]; omega)) allE_nil)) (wkV.refl _) (wkM.refl _) hP5 hB5 hI fun a6 Hr6 w6 hP6 hB6 hT6 => ?_
    exact hnx _ _ _ hP6 hB6 hT6
  have hw1 : Int.toNat (IntKind.wrap IntKind.i64 ((L.length : Int) - N) - 0) = L.length - N.toNat := by rw [IntKind.wrap_i64]; omega
  refine ev_codeWP hE 60 [0, 2] .ret (by decide) (Hr0 := Hr) (w00 := w) (by rw [hl3]; rfl) (rpr_z A0 Rt c L N N.toNat (F5 (popTo L N.toNat)) (allE_cons (by first | exact decide_eq_true (by omega) | exact decide_eq_true (by simp only [List.length_map, List.length_range]; omega) | exact decide_eq_true (by simp only [IntKind.wrap_i64]; omega)) (allE_cons (by first | exact decide_eq_true (by omega) | exact decide_eq_true (by simp only [List.length_map, List.length_range]; omega) | exact decide_eq_true (by simp only [IntKind.wrap_i64]; omega)) allE_nil))) (live'' := [(4, .gsl .any 1 0 (L.length - N.toNat)), (5, .gsl .any 0 0 N.toNat), (6, .int .i64 true 0)]) ⟨rfl, wkA.trans wkA_any (wkA_eq (by rw [hw1])), rfl, wkA_any, rfl, wkA.refl _, trivial⟩ (H'' := [.row (N.toNat) 5 (F5 (popTo L N.toNat)) cvE none, .row (L.length - N.toNat) 5 (F5 (takeL L (L.length - N.toNat))) cvE none]) ⟨wkI.refl _, wkI_row (Nat.le_of_eq hw1.symm) (fun i hi => by rw [Int.toNat_natCast, show 0 + Int.toNat 0 + i = i by simp]; unfold takeL; rw [F5_mapN (by omega)]; rfl), trivial⟩ hP6 hB6 hI fun a7 Hr7 w7 hP7 hB7 hT7 => ?_
  obtain ⟨rr, vv, _, _, hBl, hAp⟩ := id hP7
  exact ev_endR hE (vs := [_, _, _]) (fun rs => by kernel_rfl) hP7 hB7 (fun V hv => ⟨V, Hr7, rfl, hv, hBl, hAp, hB7.own, hT7⟩) (.inl rfl)
end Go.Proofs.Ytcfomhnfhalmaaa
end

section
set_option linter.unusedVariables false
set_option linter.unusedSimpArgs false
set_option maxRecDepth 100000
namespace Go.Proofs.Ytcfomhnfhalmaaa
open Go.RowKit

/-- What a label says of the block that another one had. -/
def rtI (σ φ : Nat → Nat) (l : Nat) (a : AIt) (i : Nat) (b : AIt) : Prop :=
  b = .gone ∨ (b.owner i = φ (a.owner l) ∧ (b = mapI σ a ∨ ∃ n s F t o o', a = .row n s F t o ∧ b = .row n s F t o'))
def rtL (σ φ : Nat → Nat) (H : Mem) : Nat → List Nat → Mem → Prop
  | _, [], [] => True
  | i, l :: π, b :: H' => (∃ a, H[l]? = some a ∧ rtI σ φ l a i b) ∧ rtL σ φ H (i + 1) π H'
  | _, _, _ => False
theorem rtL.at {σ φ : Nat → Nat} {H : Mem} : ∀ {k : Nat} {π : List Nat} {H' : Mem}, rtL σ φ H k π H' → π.length = H'.length ∧ ∀ i l : Nat, π[i]? = some l → ∃ a b, H[l]? = some a ∧ H'[i]? = some b ∧ rtI σ φ l a (k + i) b
  | k, [], [], _ => ⟨rfl, fun i l h => by simp at h⟩
  | k, x :: π, b :: H', h => by
    obtain ⟨⟨a, h1, h2⟩, h3⟩ := h
    obtain ⟨e, q⟩ := h3.at
    refine ⟨by rw [List.length_cons, List.length_cons, e], fun i l hi => ?_⟩
    cases i with
    | zero => simp at hi; subst hi; exact ⟨a, b, h1, rfl, h2⟩
    | succ i =>
      obtain ⟨a', b', g1, g2, g3⟩ := q i l (by simpa using hi)
      exact ⟨a', b', g1, by simpa using g2, by rw [show k + (i + 1) = k + 1 + i by omega]; exact g3⟩
theorem mapI_own {σ φ : Nat → Nat} {it : AIt} {p : RBlk} {R : Rws} {ρ ρ' : Nums} (hσ : ∀ (l : Nat) q, ρ[l]? = some q → ρ'[σ l]? = some q) {l i : Nat} {b : AIt} (h : rtI σ φ l it i b) (hr : RelI R ρ it p) : RelI R ρ' b p := by
  rcases h with rfl | ⟨_, rfl | ⟨n, s, F, t, o, o', rfl, rfl⟩⟩
  · exact .gone
  · exact hr.mapS hσ
  · cases hr with
    | row a b c d e => exact .row a b c d e
    | row0 h => exact .row0 h
theorem rtI_live {σ φ : Nat → Nat} {l i : Nat} {a b : AIt} (h : rtI σ φ l a i b) (hb : b.live = true) : a.live = true ∧ b.owner i = φ (a.owner l) := by
  rcases h with rfl | ⟨h, rfl | ⟨n, s, F, t, o, o', rfl, rfl⟩⟩
  · cases hb
  · exact ⟨by rw [mapI_live] at hb; exact hb, h⟩
  · exact ⟨rfl, h⟩
def rtPi (π : List Nat) (n : Nat) (σ : Nat → Nat) : Prop := (∀ l ∈ π, l < n) ∧ ∀ l, l < n → π[σ l]? = some l
theorem rt_sub {R : Rws} {Hr : List RBlk} {π : List Nat} {n : Nat} {σ : Nat → Nat} (hl : Hr.length = n) (hπ : rtPi π n σ) : ∀ (l : Nat) q, (nums Hr)[l]? = some q → (nums (pick π Hr))[σ l]? = some q := fun l q h => by
  have hlt : l < n := by have := (List.getElem?_eq_some_iff.1 h).1; simp only [nums, List.length_map] at this; omega
  rw [nums_pick (fun l hl' => by rw [hl]; exact hπ.1 l hl') _ _ (hπ.2 l hlt)]
  exact h
theorem retell {R : Rws} {H H' : Mem} {Hr : List RBlk} {π : List Nat} {σ φ : Nat → Nat} {w : World} (hπ : rtPi π H.length σ) (hit : rtL σ φ H 0 π H')
    (hB : RelB R (nums Hr) H Hr) (hn : Apart H Hr) (hO : OwnK R H Hr w) : RelB R (nums (pick π Hr)) H' (pick π Hr) ∧ Apart H' (pick π Hr) ∧ OwnK R H' (pick π Hr) w := by
  obtain ⟨hlen, hat⟩ := hit.at
  have hv : ∀ l ∈ π, l < Hr.length := fun l h => by rw [hB.1]; exact hπ.1 l h
  have hσ := rt_sub (R := R) hB.1 hπ
  have hto : ∀ (i : Nat) b p, H'[i]? = some b → (pick π Hr)[i]? = some p → ∃ l a, π[i]? = some l ∧ H[l]? = some a ∧ Hr[l]? = some p ∧ rtI σ φ l a i b := fun i b p h1 h2 => by
    have hi : i < π.length := by rw [hlen]; exact (List.getElem?_eq_some_iff.1 h1).1
    have e1 := List.getElem?_eq_getElem hi
    obtain ⟨a, b', g1, g2, g3⟩ := hat i _ e1
    rw [h1] at g2; cases g2
    rw [pick_get hv i _ e1] at h2
    exact ⟨_, a, e1, g1, h2, by rw [Nat.zero_add] at g3; exact g3⟩
  refine ⟨⟨by rw [pick_len hv, hlen], fun i b p h1 h2 => ?_⟩, fun i j b c p q hne h1 h2 v1 v2 q1 q2 z1 z2 hb => ?_, ⟨fun i b p h1 h2 hp => ?_, hO.2.sub fun b hb => ?_⟩⟩
  · obtain ⟨l, a, e1, e2, e3, e4⟩ := hto i b p h1 h2
    exact mapI_own hσ e4 (hB.2 l a p e2 e3)
  · obtain ⟨l, a, e1, e2, e3, e4⟩ := hto i b p h1 q1
    obtain ⟨m, d, f1, f2, f3, f4⟩ := hto j c q h2 q2
    obtain ⟨k1, k2⟩ := rtI_live e4 v1
    obtain ⟨k3, k4⟩ := rtI_live f4 v2
    rw [k2, k4]
    by_cases hlm : l = m
    · subst hlm
      rw [e2] at f2; cases f2
      rfl
    · rw [hn l m a d p q hlm e2 f2 k1 k3 e3 f3 z1 z2 hb]
  · obtain ⟨l, a, e1, e2, e3, e4⟩ := hto i b p h1 h2
    obtain ⟨g1, g2⟩ := hO.1 l a p e2 e3 hp
    exact ⟨g1, fun hlv => g2 (rtI_live e4 hlv).1⟩
  · rw [mem_bs] at hb ⊢
    obtain ⟨q, hq, e⟩ := hb
    exact ⟨q, nums_pick_mem hq, e⟩
theorem retell_stp {Hr0 Hr : List RBlk} {π : List Nat} {w0 w : World} {wr : Nat → Bool} (hv : ∀ l ∈ π, l < Hr.length) (hk : π.take Hr0.length = List.range Hr0.length) (hw : ∀ l ∈ π.drop Hr0.length, l < Hr0.length → wr l = true) (hS : Stp wr Hr0 w0 Hr w) : Stp wr Hr0 w0 (pick π Hr) w := by
  obtain ⟨τ, hτ, hfr⟩ := hS.ext
  have hkl : Hr0.length ≤ π.length := by
    have := congrArg List.length hk
    simp at this
    omega
  have hlow : ∀ i, i < Hr0.length → π[i]? = some i := fun i hi => by
    have := congrArg (fun z : List Nat => z[i]?) hk
    simpa [List.getElem?_take, hi] using this
  have hnp : (nums (pick π Hr)).length = π.length := by simp [nums, pick_len hv]
  have hnH : (nums Hr0).length = Hr0.length := by simp [nums]
  have hget : ∀ i l : Nat, π[i]? = some l → (nums (pick π Hr))[i]? = (nums Hr)[l]? := fun i l h => nums_pick hv i l h
  refine ⟨hS.os, hS.tape, hS.output, hS.size, ⟨(nums (pick π Hr)).drop Hr0.length, ?_, fun q hq hqp => ?_⟩, hS.block⟩
  · refine List.ext_getElem? fun i => ?_
    by_cases hi : i < Hr0.length
    · rw [List.getElem?_append_left (by rw [hnH]; exact hi), hget i i (hlow i hi), hτ, List.getElem?_append_left (by rw [hnH]; exact hi)]
    · rw [List.getElem?_append_right (by rw [hnH]; omega), List.getElem?_drop, hnH]
      congr 1; omega
  · obtain ⟨j, hj⟩ := List.getElem?_of_mem hq
    rw [List.getElem?_drop] at hj
    have hjl : Hr0.length + j < π.length := by rw [← hnp]; exact (List.getElem?_eq_some_iff.1 hj).1
    have e1 := List.getElem?_eq_getElem hjl
    rw [hget _ _ e1] at hj
    by_cases hlt : π[Hr0.length + j] < Hr0.length
    · rw [hτ, List.getElem?_append_left (by rw [hnH]; exact hlt)] at hj
      exact .inr ⟨_, q, hj, hqp, rfl, hw _ (List.mem_of_getElem? (i := j) (by rw [List.getElem?_drop]; exact e1)) hlt⟩
    · rw [hτ, List.getElem?_append_right (by rw [hnH]; omega)] at hj
      exact hfr q (List.mem_of_getElem? hj) hqp
/-- What a call leaves behind, told under other labels. -/
theorem calls_rt {P : Program} {R : Rws} {f : FuncId} {Args : Array Value} {w : World} {H1 H2 H3 : Mem} {Hr : List RBlk} {v1 v3 : AV} {wr : Nat → Bool} (π : List Nat) (σ φ : Nat → Nat) (hπ : rtPi π H1.length σ) (hk : π.take Hr.length = List.range Hr.length) (hw : ∀ l ∈ π.drop Hr.length, l < Hr.length → wr l = true) (hit : rtL σ φ H1 0 π H2) (hv : wkA (mapA σ v1) v3) (hm : wkM H2 H3)
    (h : Calls P f Args w fun e w' => ∃ V Hr', e = .returned V ∧ Rel R (nums Hr') v1 V ∧ RelB R (nums Hr') H1 Hr' ∧ Apart H1 Hr' ∧ OwnK R H1 Hr' w' ∧ Stp wr Hr w Hr' w') :
    Calls P f Args w fun e w' => ∃ V Hr', e = .returned V ∧ Rel R (nums Hr') v3 V ∧ RelB R (nums Hr') H3 Hr' ∧ Apart H3 Hr' ∧ OwnK R H3 Hr' w' ∧ Stp wr Hr w Hr' w' := by
  refine h.mono ?_
  rintro e w' ⟨V, Hr', rfl, g1, g2, g3, g4, g5⟩
  obtain ⟨q1, q2, q3⟩ := retell hπ hit g2 g3 g4
  obtain ⟨k1, k2⟩ := hm.mem q1 q2
  exact ⟨V, _, rfl, hv _ _ _ (Rel.mapS (rt_sub (R := R) g2.1 hπ) g1), k1, k2, hm.own q3, retell_stp (fun l hl => by rw [g2.1]; exact hπ.1 l hl) hk hw g5⟩
end Go.Proofs.Ytcfomhnfhalmaaa
end

section
set_option linter.unusedVariables false
set_option linter.unusedSimpArgs false
set_option maxRecDepth 100000
namespace Go.Proofs.Ytcfomhnfhalmaaa
open Go.RowKit

noncomputable def mopsR (L : List V5) (N : Int) : List (Nat × CtmF) := [(73, frR (joinS L)), (77, frF (raiseS L)), (67, frF (revS (mapN N.toNat fun i => L.getD (L.length - N.toNat + i) z5))), (61, frR (rrRS L)), (57, frR (rpRS L))]
noncomputable def moptR (L : List V5) (N : Int) : List (Nat × CtrF) := [(60, frP (rjRS L)), (34, frP (raGGS (rev5 (mapN N.toNat fun i => L.getD (L.length - N.toNat + i) z5)) (popTo L N.toNat)))]
noncomputable def mopt0R (L : List V5) : List (Nat × CtrF) := [(60, frP (rjRS L))]
noncomputable def mops0R (L : List V5) : List (Nat × CtmF) := [(73, frR (joinS L)), (77, frF (raiseS L)), (61, frR (rrRS L))]
end Go.Proofs.Ytcfomhnfhalmaaa
end

section
set_option linter.unusedVariables false
set_option linter.unusedSimpArgs false
set_option maxRecDepth 100000
namespace Go.Proofs.Ytcfomhnfhalmaaa
open Go.RowKit

open Classical in
noncomputable def chgB (W N : Int) (L : List V5) : Bool := decide (W = 0 ∨ W = 1 ∨ (W = 2 ∧ 0 ≤ N ∧ N ≤ L.length) ∨ (W = 3 ∧ 1 ≤ N ∧ N ≤ 16 ∧ N ≤ L.length) ∨ (W = 4 ∧ 1 ≤ N ∧ N ≤ 16 ∧ N + 1 ≤ L.length) ∨ (W = 5 ∧ 0 ≤ N))
/-- What act makes of a list. -/
noncomputable def nextL (W N : Int) (x : V5) (L : List V5) : List V5 :=
  if chgB W N L = false then L else if W = 0 ∨ W = 1 then pushL L x else if W = 2 then takeL L (L.length - N.toNat) else if W = 3 then pushL L (L.getD (L.length - N.toNat) z5) else if W = 4 then swapL L N.toNat else raiseTo L N.toNat L.length x.l
theorem chg_t {W N : Int} {L : List V5} : chgB W N L = true ↔ (W = 0 ∨ W = 1 ∨ (W = 2 ∧ 0 ≤ N ∧ N ≤ L.length) ∨ (W = 3 ∧ 1 ≤ N ∧ N ≤ 16 ∧ N ≤ L.length) ∨ (W = 4 ∧ 1 ≤ N ∧ N ≤ 16 ∧ N + 1 ≤ L.length) ∨ (W = 5 ∧ 0 ≤ N)) := by unfold chgB; exact decide_eq_true_iff
theorem chg_f {W N : Int} {L : List V5} : chgB W N L = false ↔ ¬ (W = 0 ∨ W = 1 ∨ (W = 2 ∧ 0 ≤ N ∧ N ≤ L.length) ∨ (W = 3 ∧ 1 ≤ N ∧ N ≤ 16 ∧ N ≤ L.length) ∨ (W = 4 ∧ 1 ≤ N ∧ N ≤ 16 ∧ N + 1 ≤ L.length) ∨ (W = 5 ∧ 0 ≤ N)) := by unfold chgB; exact decide_eq_false_iff_not
theorem next_len (W N : Int) (x : V5) (L : List V5) : (nextL W N x L).length ≤ L.length + 1 := by
  unfold nextL
  split
  · omega
  · split
    · rw [push_len]; omega
    · split
      · rw [take_len]; omega
      · split
        · rw [push_len]; omega
        · split
          · rw [swap_len]; omega
          · rw [raise_len]; omega
theorem pop_rev {L : List V5} {N : Nat} (h : N ≤ L.length) : rev5 (mapN N fun i => L.getD (L.length - N + i) z5) = popTo L N := by
  refine ext5 (by rw [show (rev5 (mapN N fun i => L.getD (L.length - N + i) z5)).length = N by unfold rev5; rw [mapN_len, mapN_len], pop_len]) fun i hi => ?_
  have hi : i < N := by unfold rev5 at hi; rw [mapN_len, mapN_len] at hi; exact hi
  unfold rev5 popTo
  rw [mapN_len, mapN_get hi, mapN_get (show N - 1 - i < N by omega), mapN_get hi]
  congr 1
  omega
theorem swap_rowG {L : List V5} {F : Nat → List AV} {A B : List AV} {p q i : Nat} (hF : ∀ j, F j = F5 L j) (hA : A = F5 L q) (hB : B = F5 L p) : putR 5 (putR 5 F p 0 A) q 0 B i = v5 (if i = q then L.getD p z5 else if i = p then L.getD q z5 else L.getD i z5) := by
  have e : F = fun i => F5 L (0 + i) := funext fun j => by rw [hF, Nat.zero_add]
  subst hA hB
  rw [e, ← swap_row (L := L) (p := p) (q := q) (i := i)]
  rw [Nat.zero_add, Nat.zero_add]
  rfl
abbrev PostM (R : Rws) (Hr : List RBlk) (w : World) (v : AV) (H : Mem) : Ending → World → Prop := fun e w' => ∃ V Hr', e = .returned V ∧ Rel R (nums Hr') v V ∧ RelB R (nums Hr') H Hr' ∧ Apart H Hr' ∧ OwnK R H Hr' w' ∧ Stp allW Hr w Hr' w'
def ltS (S : List Nat) : Nat → Nat := fun l => S.getD l 0
def rtC (π S : List Nat) (n : Nat) : Bool := π.all (fun l => Nat.blt l n) && (List.range n).all (fun l => match π[S.getD l 0]? with | some m => Nat.beq m l | none => false)
theorem rtC_ok {π S : List Nat} {n : Nat} (h : rtC π S n = true) : rtPi π n (ltS S) := by
  unfold rtC at h
  rw [Bool.and_eq_true, List.all_eq_true, List.all_eq_true] at h
  refine ⟨fun l hl => by have := h.1 l hl; rw [Nat.blt_eq] at this; exact this, fun l hl => ?_⟩
  have := h.2 l (List.mem_range.2 hl)
  unfold ltS
  split at this
  · rename_i m hm
    rw [hm, Nat.eq_of_beq_eq_true this]
  · cases this
theorem calls_rtL {P : Program} {R : Rws} {f : FuncId} {Args : Array Value} {w : World} {H1 : Mem} (H2 : Mem) {H3 : Mem} {Hr : List RBlk} {v1 v3 : AV} (n0 : Nat) (π S Φ : List Nat) (h0 : Hr.length = n0) (hc : rtC π S H1.length = true) (hk : π.take n0 = List.range n0) (hit : rtL (ltS S) (ltS Φ) H1 0 π H2) (hv : wkA (mapA (ltS S) v1) v3) (hm : wkM H2 H3)
    (h : Calls P f Args w (PostM R Hr w v1 H1)) : Calls P f Args w (PostM R Hr w v3 H3) :=
  calls_rt π (ltS S) (ltS Φ) (rtC_ok hc) (by rw [h0]; exact hk) (fun _ _ _ => rfl) hit hv hm h
section
variable {P : Program} {R : Rws} {f : FuncId} {Args : Array Value} {w : World} {Hr : List RBlk} {t e : TypeId} {F : Nat → List AV}
theorem keepR {n m : Nat} {c : Nat} (hl : Hr.length = 2) (h : Calls P f Args w (PostM R Hr w (.tuple [.ptr 0 0, .rsl 0 m c, .bool true true]) [.cells [.gsl .any 1 0 n, .bool true true] t, .row n 5 F e none])) :
    Calls P f Args w (PostM R Hr w (.tuple [.ptr 2 0, .rsl 0 m c, .bool true true]) [.gone, .row n 5 F e (some 3), .cells [.gsl .any 3 0 n, .bool true true] t, .row n 5 F e none]) :=
  calls_rtL [.gone, .row n 5 F e (some 3), .cells [.gsl .any 3 0 n, .bool true true] t, .row n 5 F e none] 2 [0, 1, 0, 1] [2, 3] [2, 3] hl (by rfl) rfl ⟨⟨_, rfl, .inl rfl⟩, ⟨_, rfl, .inr ⟨rfl, .inr ⟨_, _, _, _, _, _, rfl, rfl⟩⟩⟩, ⟨_, rfl, .inr ⟨rfl, .inl rfl⟩⟩, ⟨_, rfl, .inr ⟨rfl, .inl rfl⟩⟩, trivial⟩ (wkA.refl _) (wkM.refl _) h
theorem popR {n n' : Nat} {k : Cp} {F' : Nat → List AV} {e' : TypeId} (hl : Hr.length = 2) (hn : n' ≤ n) (hF : ∀ i, i < n' → F i = F' i) (h : Calls P f Args w (PostM R Hr w (.tuple [.ptr 0 0, .gsl .any 2 0 n', .bool true true]) [.cells [.gsl k 1 0 n', .bool true true] t, .row n 5 F e none, .row n' 5 F' e' none])) :
    Calls P f Args w (PostM R Hr w (.tuple [.ptr 2 0, .gsl .any 4 0 n', .bool true true]) [.gone, .row n 5 F e (some 3), .cells [.gsl .any 3 0 n', .bool true true] t, .row n' 5 F' e none, .row n' 5 F' e' none]) :=
  calls_rtL [.gone, .row n 5 F e (some 3), .cells [.gsl k 3 0 n', .bool true true] t, .row n 5 F e none, .row n' 5 F' e' none] 2 [0, 1, 0, 1, 2] [2, 3, 4] [2, 3, 4] hl (by rfl) rfl ⟨⟨_, rfl, .inl rfl⟩, ⟨_, rfl, .inr ⟨rfl, .inr ⟨_, _, _, _, _, _, rfl, rfl⟩⟩⟩, ⟨_, rfl, .inr ⟨rfl, .inl rfl⟩⟩, ⟨_, rfl, .inr ⟨rfl, .inl rfl⟩⟩, ⟨_, rfl, .inr ⟨rfl, .inl rfl⟩⟩, trivial⟩ (wkA.refl _) ⟨trivial, wkI.refl _, ⟨rfl, wkA_any, wkA.refl _, trivial⟩, wkI_row hn hF, wkI.refl _, trivial⟩ h
theorem newR {n m m' : Nat} {k k' : Cp} {F1 F2 G : Nat → List AV} {e1 e2 : TypeId} (hl : Hr.length = 2) (hm : m' = m) (h1 : ∀ i, i < m → F1 i = G i) (h2 : ∀ i, i < m → F2 i = G i) (h : Calls P f Args w (PostM R Hr w (.tuple [.ptr 0 0, .gsl k' 3 0 m', .bool true true]) [.cells [.gsl k 2 0 m', .bool true true] t, .row n 5 F e none, .row m' 5 F1 e1 none, .row m' 5 F2 e2 none])) :
    Calls P f Args w (PostM R Hr w (.tuple [.ptr 2 0, .gsl .any 4 0 m, .bool true true]) [.gone, .row n 5 F e (some 3), .cells [.gsl .any 3 0 m, .bool true true] t, .row m 5 G e1 none, .row m 5 G e2 none]) := by
  subst hm
  exact calls_rtL [.gone, .row n 5 F e (some 3), .cells [.gsl k 3 0 m', .bool true true] t, .row m' 5 F1 e1 none, .row m' 5 F2 e2 none] 2 [0, 1, 0, 2, 3] [2, 1, 3, 4] [2, 3, 3, 4] hl (by rfl) rfl ⟨⟨_, rfl, .inl rfl⟩, ⟨_, rfl, .inr ⟨rfl, .inr ⟨_, _, _, _, _, _, rfl, rfl⟩⟩⟩, ⟨_, rfl, .inr ⟨rfl, .inl rfl⟩⟩, ⟨_, rfl, .inr ⟨rfl, .inl rfl⟩⟩, ⟨_, rfl, .inr ⟨rfl, .inl rfl⟩⟩, trivial⟩ (by exact wkA_tuple (a := [.ptr 2 0, .gsl k' 4 0 m', .bool true true]) (b := [.ptr 2 0, .gsl .any 4 0 m', .bool true true]) ⟨wkA.refl _, wkA_any, wkA.refl _, trivial⟩) ⟨trivial, wkI.refl _, ⟨rfl, wkA_any, wkA.refl _, trivial⟩, wkI_row (Nat.le_refl _) h1, wkI_row (Nat.le_refl _) h2, trivial⟩ h
theorem copyR {n m : Nat} {c : Nat} {k : Cp} {F1 : Nat → List AV} {t' e' : TypeId} (hl : Hr.length = 2) (h1 : ∀ i, i < n → F1 i = F i) (h : Calls P f Args w (PostM R Hr w (.tuple [.ptr 2 0, .rsl 0 m c, .bool true true]) [.cells [.gsl .any 1 0 n, .bool true true] t, .row n 5 F e none, .cells [.gsl k 3 0 n, .bool true true] t', .row n 5 F1 e' none])) :
    Calls P f Args w (PostM R Hr w (.tuple [.ptr 2 0, .rsl 0 m c, .bool true true]) [.gone, .row n 5 F e (some 3), .cells [.gsl .any 3 0 n, .bool true true] t', .row n 5 F e' none]) :=
  calls_rtL [.gone, .row n 5 F e (some 3), .cells [.gsl k 3 0 n, .bool true true] t', .row n 5 F1 e' none] 2 [0, 1, 2, 3] [0, 1, 2, 3] [0, 3, 2, 3] hl (by rfl) rfl ⟨⟨_, rfl, .inl rfl⟩, ⟨_, rfl, .inr ⟨rfl, .inr ⟨_, _, _, _, _, _, rfl, rfl⟩⟩⟩, ⟨_, rfl, .inr ⟨rfl, .inl rfl⟩⟩, ⟨_, rfl, .inr ⟨rfl, .inl rfl⟩⟩, trivial⟩ (wkA.refl _) ⟨trivial, wkI.refl _, ⟨rfl, wkA_any, wkA.refl _, trivial⟩, wkI_row (Nat.le_refl _) h1, trivial⟩ h
end
end Go.Proofs.Ytcfomhnfhalmaaa
end

section
set_option linter.unusedVariables false
set_option linter.unusedSimpArgs false
set_option maxRecDepth 100000
end

section
set_option linter.unusedVariables false
set_option linter.unusedSimpArgs false
set_option maxRecDepth 100000
end

section
set_option linter.unusedVariables false
set_option linter.unusedSimpArgs false
set_option maxRecDepth 100000
namespace Go.Proofs.Ytcfomhnfhalmaaa
open Go.RowKit

theorem below_newW {H : Mem} {R : Rws} {Hr Hr' : List RBlk} {w w' : World} (hB : RelB R (nums Hr) H Hr) (g5 : Stp (newW H.length) Hr w Hr' w') : Below w.heap.size w w' :=
  ⟨g5.os, g5.tape, g5.output, g5.size, fun k hk => g5.block k hk fun l q hl _ _ => by
      have hlt : l < H.length := by have := (List.getElem?_eq_some_iff.1 hl).1; rw [← hB.1]; simpa [nums] using this
      unfold newW
      rw [← Bool.not_eq_true, Nat.ble_eq]
      omega⟩
noncomputable def mEQ (S : SmF) : List (Nat × CtmF) := [(62, frR S)]
theorem ev_wayP {E : Env} {nf f : Nat} {args : List AV} {st : AM} {sel : List Nat} {v : AV} {H : Mem} {cs : List (Bool × Bool)} (h : evCall E nf f args st (fun v' m => (renA sel v', sel.map fun l => (m.H[l]?).bind (renI sel)) = (some v, H.map some)) = allE cs ((some v, H.map some) = (some v, H.map some))) (hl : AllE cs) : Is (evCall E nf f args st (fun v' m => (renA sel v', sel.map fun l => (m.H[l]?).bind (renI sel)) = (some v, H.map some))) := ev_eq cs (some v, H.map some) h hl
theorem al_w (R : Rws) (L K : List V5) (up : BitVec 64) (t0 t1 : TypeId) (h : AllE [(rowIs (F5 L) (List.length L) L, true), (rowIs (F5 K) (List.length K) K, true), (decide (List.length L ≤ List.length L), true), (decide (List.length K ≤ List.length K), true), (decide (List.length L ≤ 1000000), true)]) : Is (evCall (EG R false tabS (mEQ (eqS L K))) 60 26 [.ptr 0 0, .ptr 1 0, .bv .u64 up] ⟨[.cells [.gsl .any 2 0 L.length, .bool true true] t0, .cells [.gsl .any 3 0 K.length, .bool true true] t1, .row L.length 5 (F5 L) cvE none, .row K.length 5 (F5 K) cvE none], [], newW 4⟩ (fun v m => (renA [0, 1, 2, 3] v, ([0, 1, 2, 3] : List Nat).map fun l => (m.H[l]?).bind (renI [0, 1, 2, 3])) = (some (.bool false (alikeB L K up)), ([.cells [.gsl .any 2 0 L.length, .bool true true] t0, .cells [.gsl .any 3 0 K.length, .bool true true] t1, .row L.length 5 (F5 L) cvE none, .row K.length 5 (F5 K) cvE none] : Mem).map some))) := ev_wayP (by kernel_rfl) h
noncomputable def alS (L K : List V5) : SmP
  | [.ptr 0 0, .ptr 1 0, .bv .u64 up], [.cells [.gsl k 2 0 n, .bool l true] t0, .cells [.gsl k' 3 0 m, .bool l' true] t1, .row N 5 F e none, .row N' 5 F' e' none] => some (.bool false (alikeB L K up), [rowIs F n L, rowIs F' m K, decide (n ≤ N), decide (m ≤ N'), decide (n ≤ 1000000), decide (e = cvE), decide (e' = cvE)])
  | _, _ => none
theorem alS_ok {R : Rws} (hR : RwOK R) (L K : List V5) : GoodP Try.prog R 26 (alS L K) := by
  refine ⟨enters_of Try.func26 (by kernel_rfl) rfl, fun args H v cs h hcs => ?_⟩
  unfold alS at h
  split at h
  case h_2 => cases h
  rename_i up k n l t0 k' m l' t1 N F e N' F' e'
  cases h
  simp only [List.mem_cons, List.not_mem_nil, or_false, forall_eq_or_imp, forall_eq] at hcs
  obtain ⟨c1, c2, c3, c4, c5, c6, c7⟩ := hcs
  have c3 := of_decide_eq_true c3
  have c4 := of_decide_eq_true c4
  have c5 := of_decide_eq_true c5
  have c6 := of_decide_eq_true c6
  have c7 := of_decide_eq_true c7
  obtain ⟨d1, d2⟩ := rowIs_spec c1
  obtain ⟨d3, d4⟩ := rowIs_spec c2
  subst d1 d3 c6 c7
  refine ⟨.bool (alikeB L K up), rfl, fun Hr w Args hA hB hn hO => ?_⟩
  have hE := EG_ok (R := R) hR false (T := tabS) tabS_ok (goodM_cons (q := (_, _)) (frR_ok (eqS_ok hR L K)) goodM_nil)
  have hW : wkM [.cells [.gsl k 2 0 L.length, .bool l true] t0, .cells [.gsl k' 3 0 K.length, .bool l' true] t1, .row N 5 F cvE none, .row N' 5 F' cvE none] [.cells [.gsl .any 2 0 L.length, .bool true true] t0, .cells [.gsl .any 3 0 K.length, .bool true true] t1, .row L.length 5 (F5 L) cvE none, .row K.length 5 (F5 K) cvE none] := ⟨⟨rfl, wkA_any, wkA_bool, trivial⟩, ⟨rfl, wkA_any, wkA_bool, trivial⟩, ⟨c3, rfl, rfl, rfl, d2⟩, ⟨c4, rfl, rfl, rfl, d4⟩, trivial⟩
  obtain ⟨hB', hn'⟩ := hW.mem hB hn
  have hO' := hW.own hO
  refine (ev_callW (wr := newW 4) hE 60 [0, 1, 2, 3] (by decide) (by rfl) rfl (al_w R L K up t0 t1 (allE_cons (rowIs_self _) (allE_cons (rowIs_self _) (allE_cons (by first | exact decide_eq_true rfl | exact decide_eq_true (Nat.le_refl _) | exact decide_eq_true (by omega)) (allE_cons (by first | exact decide_eq_true rfl | exact decide_eq_true (Nat.le_refl _) | exact decide_eq_true (by omega)) (allE_cons (by first | exact decide_eq_true rfl | exact decide_eq_true (Nat.le_refl _) | exact decide_eq_true (by omega)) allE_nil)))))) (wkA.refl _) (wkM.refl _) hA hB' hn' hO').mono ?_
  rintro e w' ⟨V', Hr', rfl, g1, _, _, _, g5⟩
  exact ⟨by rw [g1.told (show AV.told? (.bool false (alikeB L K up)) = some _ from rfl)], below_newW hB g5⟩
end Go.Proofs.Ytcfomhnfhalmaaa
end

section
set_option linter.unusedVariables false
set_option linter.unusedSimpArgs false
set_option maxRecDepth 100000
namespace Go.Proofs.Ytcfomhnfhalmaaa
open Go.RowKit

theorem ayr_p0 (A0 : Option Addr) (Rt : List RowI) (c : Nat) (L : List V5) (W N : Int) (x : V5) (t0 : TypeId) (h : AllE [(W == 0, true), (!decide ((↑(List.length L) : Int) < 1024), false), (decide (List.length L ≤ 1000000), true), (decide (0 + List.length L ≤ List.length L), true), (decide (List.length L ≤ List.length L), true), (decide (List.length L + 1 ≤ 1000000), true), (decide ((↑(List.length L) : Int) ≥ 1024), false), (decide (List.length L ≤ 1000000), true), (decide (List.length L ≤ List.length L), true), (decide (List.length L + 1 ≤ 1000000), true)]) : Is (evCall (EG (rws (mkRow A0 L.length 5 (F5 L) :: Rt)) false (mopt0R L ++ tabS) (mops0R L)) 60 25 [.ptr 0 0, .rsl 0 L.length c, .agg [.int .i64 false W, .int .i64 false N, .bv .u64 x.a, .bv .u64 x.b, .bv .u64 x.c, .bv .u64 x.d, .bv .u64 x.l]] ⟨[.cells [.gsl .any 1 0 L.length, .bool true true] t0, .row L.length 5 (F5 L) cvE none], [true, false, false], allW⟩ (fun v m => (renA [0, 1, 12, 17] v, ([0, 1, 12, 17] : List Nat).map fun l => (m.H[l]?).bind (renI [0, 1, 12, 17])) = (some (.tuple [.ptr 0 0, .gsl .top 3 0 (List.length L + 1), .bool true true]), ([AIt.cells [.gsl .top 2 0 (List.length L + 1), .bool true true] t0, AIt.row (List.length L) 5 (F5 L) cvE none, .row (L.length + 1) 5 (fun i => bif Nat.blt i L.length then F5 L (0 + i) else List.take 5 (List.drop ((i - L.length) * 5) (v5 x))) cvE none, .row (L.length + 1) 5 (fun i => bif Nat.blt i L.length then RowI.F (mkRow A0 L.length 5 (F5 L)) (i : Int) else List.take 5 (List.drop ((i - L.length) * 5) (v5 x))) cvE none] : Mem).map some))) := ev_wayP (by kernel_rfl) h
theorem ayr_p1 (A0 : Option Addr) (Rt : List RowI) (c : Nat) (L : List V5) (W N : Int) (x : V5) (t0 : TypeId) (h : AllE [(W == 0, false), (W == 1, true), (!decide ((↑(List.length L) : Int) < 1024), false), (decide (List.length L ≤ 1000000), true), (decide (0 + List.length L ≤ List.length L), true), (decide (List.length L ≤ List.length L), true), (decide (List.length L + 1 ≤ 1000000), true), (decide ((↑(List.length L) : Int) ≥ 1024), false), (decide (List.length L ≤ 1000000), true), (decide (List.length L ≤ List.length L), true), (decide (List.length L + 1 ≤ 1000000), true)]) : Is (evCall (EG (rws (mkRow A0 L.length 5 (F5 L) :: Rt)) false (mopt0R L ++ tabS) (mops0R L)) 60 25 [.ptr 0 0, .rsl 0 L.length c, .agg [.int .i64 false W, .int .i64 false N, .bv .u64 x.a, .bv .u64 x.b, .bv .u64 x.c, .bv .u64 x.d, .bv .u64 x.l]] ⟨[.cells [.gsl .any 1 0 L.length, .bool true true] t0, .row L.length 5 (F5 L) cvE none], [false, true, false, false], allW⟩ (fun v m => (renA [0, 1, 12, 17] v, ([0, 1, 12, 17] : List Nat).map fun l => (m.H[l]?).bind (renI [0, 1, 12, 17])) = (some (.tuple [.ptr 0 0, .gsl .top 3 0 (List.length L + 1), .bool true true]), ([AIt.cells [.gsl .top 2 0 (List.length L + 1), .bool true true] t0, AIt.row (List.length L) 5 (F5 L) cvE none, .row (L.length + 1) 5 (fun i => bif Nat.blt i L.length then F5 L (0 + i) else List.take 5 (List.drop ((i - L.length) * 5) (v5 x))) cvE none, .row (L.length + 1) 5 (fun i => bif Nat.blt i L.length then RowI.F (mkRow A0 L.length 5 (F5 L)) (i : Int) else List.take 5 (List.drop ((i - L.length) * 5) (v5 x))) cvE none] : Mem).map some))) := ev_wayP (by kernel_rfl) h
theorem ayr_o1 (A0 : Option Addr) (Rt : List RowI) (c : Nat) (L : List V5) (W N : Int) (x : V5) (t0 : TypeId) (h : AllE [(W == 0, false), (W == 1, false), (W == 2, true), (decide (N < 0), true), (decide (N < 0), true)]) : Is (evCall (EG (rws (mkRow A0 L.length 5 (F5 L) :: Rt)) false (mopt0R L ++ tabS) (mops0R L)) 60 25 [.ptr 0 0, .rsl 0 L.length c, .agg [.int .i64 false W, .int .i64 false N, .bv .u64 x.a, .bv .u64 x.b, .bv .u64 x.c, .bv .u64 x.d, .bv .u64 x.l]] ⟨[.cells [.gsl .any 1 0 L.length, .bool true true] t0, .row L.length 5 (F5 L) cvE none], [false, false, true, true, true], allW⟩ (fun v m => (renA [0, 1] v, ([0, 1] : List Nat).map fun l => (m.H[l]?).bind (renI [0, 1])) = (some (.tuple [.ptr 0 0, .rsl 0 (List.length L) c, .bool true true]), ([AIt.cells [.gsl .any 1 0 (List.length L), .bool true true] t0, AIt.row (List.length L) 5 (F5 L) cvE none] : Mem).map some))) := ev_wayP (by kernel_rfl) h
theorem ayr_o2 (A0 : Option Addr) (Rt : List RowI) (c : Nat) (L : List V5) (W N : Int) (x : V5) (t0 : TypeId) (h : AllE [(W == 0, false), (W == 1, false), (W == 2, true), (decide (N < 0), false), (decide (N > (↑(List.length L) : Int)), true), (decide (N < 0), false), (decide (N > (↑(List.length L) : Int)), true)]) : Is (evCall (EG (rws (mkRow A0 L.length 5 (F5 L) :: Rt)) false (mopt0R L ++ tabS) (mops0R L)) 60 25 [.ptr 0 0, .rsl 0 L.length c, .agg [.int .i64 false W, .int .i64 false N, .bv .u64 x.a, .bv .u64 x.b, .bv .u64 x.c, .bv .u64 x.d, .bv .u64 x.l]] ⟨[.cells [.gsl .any 1 0 L.length, .bool true true] t0, .row L.length 5 (F5 L) cvE none], [false, false, true, false, true, false, true], allW⟩ (fun v m => (renA [0, 1] v, ([0, 1] : List Nat).map fun l => (m.H[l]?).bind (renI [0, 1])) = (some (.tuple [.ptr 0 0, .rsl 0 (List.length L) c, .bool true true]), ([AIt.cells [.gsl .any 1 0 (List.length L), .bool true true] t0, AIt.row (List.length L) 5 (F5 L) cvE none] : Mem).map some))) := ev_wayP (by kernel_rfl) h
theorem ayr_o3 (A0 : Option Addr) (Rt : List RowI) (c : Nat) (L : List V5) (W N : Int) (x : V5) (t0 : TypeId) (h : AllE [(W == 0, false), (W == 1, false), (W == 2, true), (decide (N < 0), false), (decide (N > (↑(List.length L) : Int)), false), (decide (0 ≤ IntKind.wrap IntKind.i64 ((↑(List.length L) : Int) - N) ∧ IntKind.wrap IntKind.i64 ((↑(List.length L) : Int) - N) ≤ (↑(List.length L) : Int) ∧ (↑(List.length L) : Int) ≤ (↑(List.length L) : Int)), true), (decide (Int.toNat ((↑(List.length L) : Int) - IntKind.wrap IntKind.i64 ((↑(List.length L) : Int) - N)) ≤ 1000000), true), (decide (0 + Int.toNat (IntKind.wrap IntKind.i64 ((↑(List.length L) : Int) - N)) + Int.toNat ((↑(List.length L) : Int) - IntKind.wrap IntKind.i64 ((↑(List.length L) : Int) - N)) ≤ List.length L), true), (decide ((0 : Int) ≤ 0 ∧ 0 ≤ IntKind.wrap IntKind.i64 ((↑(List.length L) : Int) - N) ∧ IntKind.wrap IntKind.i64 ((↑(List.length L) : Int) - N) ≤ (↑(List.length L) : Int)), true), (decide (IntKind.wrap IntKind.i64 ((↑(List.length L) : Int) - N) = IntKind.wrap IntKind.i64 ((↑(List.length L) : Int) - N)), true), (rowIs (fun i => F5 L (0 + Int.toNat (IntKind.wrap IntKind.i64 ((↑(List.length L) : Int) - N)) + i)) (Int.toNat ((↑(List.length L) : Int) - IntKind.wrap IntKind.i64 ((↑(List.length L) : Int) - N))) (mapN (Int.toNat N) fun i => List.getD L (List.length L - Int.toNat N + i) z5), true), (decide (Int.toNat ((↑(List.length L) : Int) - IntKind.wrap IntKind.i64 ((↑(List.length L) : Int) - N)) = Int.toNat ((↑(List.length L) : Int) - IntKind.wrap IntKind.i64 ((↑(List.length L) : Int) - N))), true), (decide (Int.toNat ((↑(List.length L) : Int) - IntKind.wrap IntKind.i64 ((↑(List.length L) : Int) - N)) ≤ 1000000), true), (decide (0 ≤ N ∧ N ≤ (↑(List.length L) : Int)), true), (decide (List.length L = List.length L), true), (decide (List.length L ≤ 100000), true), (rowIs (F5 (rev5 (mapN (Int.toNat N) fun i => List.getD L (List.length L - Int.toNat N + i) z5))) (Int.toNat ((↑(List.length L) : Int) - IntKind.wrap IntKind.i64 ((↑(List.length L) : Int) - N))) (rev5 (mapN (Int.toNat N) fun i => List.getD L (List.length L - Int.toNat N + i) z5)), true), (decide (Int.toNat ((↑(List.length L) : Int) - IntKind.wrap IntKind.i64 ((↑(List.length L) : Int) - N)) ≤ Int.toNat ((↑(List.length L) : Int) - IntKind.wrap IntKind.i64 ((↑(List.length L) : Int) - N))), true), (true, true), (rowIs (F5 (popTo L (Int.toNat N))) (Int.toNat N) (popTo L (Int.toNat N)), true), (decide (Int.toNat N ≤ Int.toNat N), true), (true, true), (decide (Int.toNat ((↑(List.length L) : Int) - IntKind.wrap IntKind.i64 ((↑(List.length L) : Int) - N)) ≤ 1000000), true), (true, true), (alikeB (rev5 (mapN (Int.toNat N) fun i => List.getD L (List.length L - Int.toNat N + i) z5)) (popTo L (Int.toNat N)) (BitVec.ofInt 64 18446744073709551615), true)]) : Is (evCall (EG (rws (mkRow A0 L.length 5 (F5 L) :: Rt)) false (moptR L N ++ tabS) (mopsR L N)) 60 25 [.ptr 0 0, .rsl 0 L.length c, .agg [.int .i64 false W, .int .i64 false N, .bv .u64 x.a, .bv .u64 x.b, .bv .u64 x.c, .bv .u64 x.d, .bv .u64 x.l]] ⟨[.cells [.gsl .any 1 0 L.length, .bool true true] t0, .row L.length 5 (F5 L) cvE none], [false, false, true, false, false, true], allW⟩ (fun v m => (renA [0, 1, 15] v, ([0, 1, 15] : List Nat).map fun l => (m.H[l]?).bind (renI [0, 1, 15])) = (some (.tuple [.ptr 0 0, .gsl .any 2 0 (List.length L - Int.toNat N), .bool true true]), ([AIt.cells [.gsl .full 1 0 (Int.toNat (IntKind.wrap .i64 ((↑(List.length L) : Int) - N) - 0)), .bool true true] t0, AIt.row (List.length L) 5 (F5 L) cvE none, .row (L.length - N.toNat) 5 (F5 (takeL L (L.length - N.toNat))) cvE none] : Mem).map some))) := ev_wayP (by kernel_rfl) h
theorem ayr_d1 (A0 : Option Addr) (Rt : List RowI) (c : Nat) (L : List V5) (W N : Int) (x : V5) (t0 : TypeId) (h : AllE [(W == 0, false), (W == 1, false), (W == 2, false), (W == 3, true), (decide (N < 1), true), (decide (N < 1), true)]) : Is (evCall (EG (rws (mkRow A0 L.length 5 (F5 L) :: Rt)) false (mopt0R L ++ tabS) (mops0R L)) 60 25 [.ptr 0 0, .rsl 0 L.length c, .agg [.int .i64 false W, .int .i64 false N, .bv .u64 x.a, .bv .u64 x.b, .bv .u64 x.c, .bv .u64 x.d, .bv .u64 x.l]] ⟨[.cells [.gsl .any 1 0 L.length, .bool true true] t0, .row L.length 5 (F5 L) cvE none], [false, false, false, true, true, true], allW⟩ (fun v m => (renA [0, 1] v, ([0, 1] : List Nat).map fun l => (m.H[l]?).bind (renI [0, 1])) = (some (.tuple [.ptr 0 0, .rsl 0 (List.length L) c, .bool true true]), ([AIt.cells [.gsl .any 1 0 (List.length L), .bool true true] t0, AIt.row (List.length L) 5 (F5 L) cvE none] : Mem).map some))) := ev_wayP (by kernel_rfl) h
theorem ayr_d2 (A0 : Option Addr) (Rt : List RowI) (c : Nat) (L : List V5) (W N : Int) (x : V5) (t0 : TypeId) (h : AllE [(W == 0, false), (W == 1, false), (W == 2, false), (W == 3, true), (decide (N < 1), false), (decide (N > 16), true), (decide (N < 1), false), (decide (N > 16), true)]) : Is (evCall (EG (rws (mkRow A0 L.length 5 (F5 L) :: Rt)) false (mopt0R L ++ tabS) (mops0R L)) 60 25 [.ptr 0 0, .rsl 0 L.length c, .agg [.int .i64 false W, .int .i64 false N, .bv .u64 x.a, .bv .u64 x.b, .bv .u64 x.c, .bv .u64 x.d, .bv .u64 x.l]] ⟨[.cells [.gsl .any 1 0 L.length, .bool true true] t0, .row L.length 5 (F5 L) cvE none], [false, false, false, true, false, true, false, true], allW⟩ (fun v m => (renA [0, 1] v, ([0, 1] : List Nat).map fun l => (m.H[l]?).bind (renI [0, 1])) = (some (.tuple [.ptr 0 0, .rsl 0 (List.length L) c, .bool true true]), ([AIt.cells [.gsl .any 1 0 (List.length L), .bool true true] t0, AIt.row (List.length L) 5 (F5 L) cvE none] : Mem).map some))) := ev_wayP (by kernel_rfl) h
theorem ayr_d3 (A0 : Option Addr) (Rt : List RowI) (c : Nat) (L : List V5) (W N : Int) (x : V5) (t0 : TypeId) (h : AllE [(W == 0, false), (W == 1, false), (W == 2, false), (W == 3, true), (decide (N < 1), false), (decide (N > 16), false), (decide (N > (↑(List.length L) : Int)), true), (decide (N < 1), false), (decide (N > 16), false), (decide (N > (↑(List.length L) : Int)), true)]) : Is (evCall (EG (rws (mkRow A0 L.length 5 (F5 L) :: Rt)) false (mopt0R L ++ tabS) (mops0R L)) 60 25 [.ptr 0 0, .rsl 0 L.length c, .agg [.int .i64 false W, .int .i64 false N, .bv .u64 x.a, .bv .u64 x.b, .bv .u64 x.c, .bv .u64 x.d, .bv .u64 x.l]] ⟨[.cells [.gsl .any 1 0 L.length, .bool true true] t0, .row L.length 5 (F5 L) cvE none], [false, false, false, true, false, false, true, false, false, true], allW⟩ (fun v m => (renA [0, 1] v, ([0, 1] : List Nat).map fun l => (m.H[l]?).bind (renI [0, 1])) = (some (.tuple [.ptr 0 0, .rsl 0 (List.length L) c, .bool true true]), ([AIt.cells [.gsl .any 1 0 (List.length L), .bool true true] t0, AIt.row (List.length L) 5 (F5 L) cvE none] : Mem).map some))) := ev_wayP (by kernel_rfl) h
theorem ayr_d4 (A0 : Option Addr) (Rt : List RowI) (c : Nat) (L : List V5) (W N : Int) (x : V5) (t0 : TypeId) (h : AllE [(W == 0, false), (W == 1, false), (W == 2, false), (W == 3, true), (decide (N < 1), false), (decide (N > 16), false), (decide (N > (↑(List.length L) : Int)), false), (decide (0 ≤ IntKind.wrap IntKind.i64 ((↑(List.length L) : Int) - N) ∧ IntKind.wrap IntKind.i64 ((↑(List.length L) : Int) - N) < (↑(List.length L) : Int)), true), (decide (0 ≤ (↑0 : Int) + IntKind.wrap IntKind.i64 ((↑(List.length L) : Int) - N) ∧ (↑0 : Int) + IntKind.wrap IntKind.i64 ((↑(List.length L) : Int) - N) < (↑(List.length L) : Int)), true), (!decide ((↑(List.length L) : Int) < 1024), false), (decide (List.length L ≤ 1000000), true), (decide (0 + List.length L ≤ List.length L), true), (decide (List.length L ≤ List.length L), true), (decide (List.length L + 1 ≤ 1000000), true), (decide (N < 1), false), (decide (N > 16), false), (decide (N > (↑(List.length L) : Int)), false), (decide (0 ≤ IntKind.wrap IntKind.i64 ((↑(List.length L) : Int) - N) ∧ IntKind.wrap IntKind.i64 ((↑(List.length L) : Int) - N) < (↑(List.length L) : Int)), true), (decide ((↑(List.length L) : Int) ≥ 1024), false), (decide (List.length L ≤ 1000000), true), (decide (List.length L ≤ List.length L), true), (decide (List.length L + 1 ≤ 1000000), true)]) : Is (evCall (EG (rws (mkRow A0 L.length 5 (F5 L) :: Rt)) false (mopt0R L ++ tabS) (mops0R L)) 60 25 [.ptr 0 0, .rsl 0 L.length c, .agg [.int .i64 false W, .int .i64 false N, .bv .u64 x.a, .bv .u64 x.b, .bv .u64 x.c, .bv .u64 x.d, .bv .u64 x.l]] ⟨[.cells [.gsl .any 1 0 L.length, .bool true true] t0, .row L.length 5 (F5 L) cvE none], [false, false, false, true, false, false, false, false, false, false, false, false], allW⟩ (fun v m => (renA [0, 1, 25, 30] v, ([0, 1, 25, 30] : List Nat).map fun l => (m.H[l]?).bind (renI [0, 1, 25, 30])) = (some (.tuple [.ptr 0 0, .gsl .top 3 0 (List.length L + 1), .bool true true]), ([AIt.cells [.gsl .top 2 0 (List.length L + 1), .bool true true] t0, AIt.row (List.length L) 5 (F5 L) cvE none, .row (L.length + 1) 5 (fun i => bif Nat.blt i L.length then F5 L (0 + i) else List.take 5 (List.drop ((i - L.length) * 5) (v5 (List.getD L (Int.toNat ((0 : Int) + IntKind.wrap IntKind.i64 ((L.length : Int) - N))) z5)))) cvE none, .row (L.length + 1) 5 (fun i => bif Nat.blt i L.length then RowI.F (mkRow A0 L.length 5 (F5 L)) (i : Int) else List.take 5 (List.drop ((i - L.length) * 5) (v5 (List.getD L (Int.toNat (IntKind.wrap IntKind.i64 ((L.length : Int) - N))) z5)))) cvE none] : Mem).map some))) := ev_wayP (by kernel_rfl) h
theorem ayr_s1 (A0 : Option Addr) (Rt : List RowI) (c : Nat) (L : List V5) (W N : Int) (x : V5) (t0 : TypeId) (h : AllE [(W == 0, false), (W == 1, false), (W == 2, false), (W == 3, false), (W == 4, true), (decide (N < 1), true), (decide (N < 1), true)]) : Is (evCall (EG (rws (mkRow A0 L.length 5 (F5 L) :: Rt)) false (mopt0R L ++ tabS) (mops0R L)) 60 25 [.ptr 0 0, .rsl 0 L.length c, .agg [.int .i64 false W, .int .i64 false N, .bv .u64 x.a, .bv .u64 x.b, .bv .u64 x.c, .bv .u64 x.d, .bv .u64 x.l]] ⟨[.cells [.gsl .any 1 0 L.length, .bool true true] t0, .row L.length 5 (F5 L) cvE none], [false, false, false, false, true, true, true], allW⟩ (fun v m => (renA [0, 1] v, ([0, 1] : List Nat).map fun l => (m.H[l]?).bind (renI [0, 1])) = (some (.tuple [.ptr 0 0, .rsl 0 (List.length L) c, .bool true true]), ([AIt.cells [.gsl .any 1 0 (List.length L), .bool true true] t0, AIt.row (List.length L) 5 (F5 L) cvE none] : Mem).map some))) := ev_wayP (by kernel_rfl) h
theorem ayr_s2 (A0 : Option Addr) (Rt : List RowI) (c : Nat) (L : List V5) (W N : Int) (x : V5) (t0 : TypeId) (h : AllE [(W == 0, false), (W == 1, false), (W == 2, false), (W == 3, false), (W == 4, true), (decide (N < 1), false), (decide (N > 16), true), (decide (N < 1), false), (decide (N > 16), true)]) : Is (evCall (EG (rws (mkRow A0 L.length 5 (F5 L) :: Rt)) false (mopt0R L ++ tabS) (mops0R L)) 60 25 [.ptr 0 0, .rsl 0 L.length c, .agg [.int .i64 false W, .int .i64 false N, .bv .u64 x.a, .bv .u64 x.b, .bv .u64 x.c, .bv .u64 x.d, .bv .u64 x.l]] ⟨[.cells [.gsl .any 1 0 L.length, .bool true true] t0, .row L.length 5 (F5 L) cvE none], [false, false, false, false, true, false, true, false, true], allW⟩ (fun v m => (renA [0, 1] v, ([0, 1] : List Nat).map fun l => (m.H[l]?).bind (renI [0, 1])) = (some (.tuple [.ptr 0 0, .rsl 0 (List.length L) c, .bool true true]), ([AIt.cells [.gsl .any 1 0 (List.length L), .bool true true] t0, AIt.row (List.length L) 5 (F5 L) cvE none] : Mem).map some))) := ev_wayP (by kernel_rfl) h
theorem ayr_s3 (A0 : Option Addr) (Rt : List RowI) (c : Nat) (L : List V5) (W N : Int) (x : V5) (t0 : TypeId) (h : AllE [(W == 0, false), (W == 1, false), (W == 2, false), (W == 3, false), (W == 4, true), (decide (N < 1), false), (decide (N > 16), false), (decide (IntKind.wrap IntKind.i64 (N + 1) > (↑(List.length L) : Int)), true), (decide (N < 1), false), (decide (N > 16), false), (decide (N ≥ (↑(List.length L) : Int)), true)]) : Is (evCall (EG (rws (mkRow A0 L.length 5 (F5 L) :: Rt)) false (mopt0R L ++ tabS) (mops0R L)) 60 25 [.ptr 0 0, .rsl 0 L.length c, .agg [.int .i64 false W, .int .i64 false N, .bv .u64 x.a, .bv .u64 x.b, .bv .u64 x.c, .bv .u64 x.d, .bv .u64 x.l]] ⟨[.cells [.gsl .any 1 0 L.length, .bool true true] t0, .row L.length 5 (F5 L) cvE none], [false, false, false, false, true, false, false, true, false, false, true], allW⟩ (fun v m => (renA [0, 1] v, ([0, 1] : List Nat).map fun l => (m.H[l]?).bind (renI [0, 1])) = (some (.tuple [.ptr 0 0, .rsl 0 (List.length L) c, .bool true true]), ([AIt.cells [.gsl .any 1 0 (List.length L), .bool true true] t0, AIt.row (List.length L) 5 (F5 L) cvE none] : Mem).map some))) := ev_wayP (by kernel_rfl) h
theorem ayr_s4 (A0 : Option Addr) (Rt : List RowI) (c : Nat) (L : List V5) (W N : Int) (x : V5) (t0 : TypeId) (h : AllE [(W == 0, false), (W == 1, false), (W == 2, false), (W == 3, false), (W == 4, true), (decide (N < 1), false), (decide (N > 16), false), (decide (IntKind.wrap IntKind.i64 (N + 1) > (↑(List.length L) : Int)), false), (decide (List.length L ≤ 1000000), true), (decide (0 + List.length L ≤ List.length L), true), (decide (0 ≤ IntKind.wrap IntKind.i64 (IntKind.wrap IntKind.i64 ((↑(List.length L) : Int) - 1) - N) ∧ IntKind.wrap IntKind.i64 (IntKind.wrap IntKind.i64 ((↑(List.length L) : Int) - 1) - N) < (↑(List.length L) : Int)), true), (decide (0 ≤ (↑0 : Int) + IntKind.wrap IntKind.i64 (IntKind.wrap IntKind.i64 ((↑(List.length L) : Int) - 1) - N) ∧ (↑0 : Int) + IntKind.wrap IntKind.i64 (IntKind.wrap IntKind.i64 ((↑(List.length L) : Int) - 1) - N) < (↑(List.length L) : Int)), true), (decide (0 ≤ IntKind.wrap IntKind.i64 ((↑(List.length L) : Int) - 1) ∧ IntKind.wrap IntKind.i64 ((↑(List.length L) : Int) - 1) < (↑(List.length L) : Int)), true), (decide (0 ≤ (↑0 : Int) + IntKind.wrap IntKind.i64 ((↑(List.length L) : Int) - 1) ∧ (↑0 : Int) + IntKind.wrap IntKind.i64 ((↑(List.length L) : Int) - 1) < (↑(List.length L) : Int)), true), (decide (0 ≤ IntKind.wrap IntKind.i64 ((↑(List.length L) : Int) - 1) ∧ IntKind.wrap IntKind.i64 ((↑(List.length L) : Int) - 1) < (↑(List.length L) : Int)), true), (decide (0 ≤ (↑0 : Int) + IntKind.wrap IntKind.i64 ((↑(List.length L) : Int) - 1) ∧ (↑0 : Int) + IntKind.wrap IntKind.i64 ((↑(List.length L) : Int) - 1) < (↑(List.length L) : Int)), true), (decide (0 ≤ IntKind.wrap IntKind.i64 (IntKind.wrap IntKind.i64 ((↑(List.length L) : Int) - 1) - N) ∧ IntKind.wrap IntKind.i64 (IntKind.wrap IntKind.i64 ((↑(List.length L) : Int) - 1) - N) < (↑(List.length L) : Int)), true), (decide (0 ≤ (↑0 : Int) + IntKind.wrap IntKind.i64 (IntKind.wrap IntKind.i64 ((↑(List.length L) : Int) - 1) - N) ∧ (↑0 : Int) + IntKind.wrap IntKind.i64 (IntKind.wrap IntKind.i64 ((↑(List.length L) : Int) - 1) - N) < (↑(List.length L) : Int)), true), (decide (N < 1), false), (decide (N > 16), false), (decide (N ≥ (↑(List.length L) : Int)), false), (decide (List.length L ≤ 1000000), true), (decide (0 ≤ IntKind.wrap IntKind.i64 (IntKind.wrap IntKind.i64 ((↑(List.length L) : Int) - 1) - N) ∧ IntKind.wrap IntKind.i64 (IntKind.wrap IntKind.i64 ((↑(List.length L) : Int) - 1) - N) < (↑(List.length L) : Int)), true), (decide (0 ≤ IntKind.wrap IntKind.i64 ((↑(List.length L) : Int) - 1) ∧ IntKind.wrap IntKind.i64 ((↑(List.length L) : Int) - 1) < (↑(List.length L) : Int)), true), (decide (0 ≤ IntKind.wrap IntKind.i64 ((↑(List.length L) : Int) - 1) ∧ IntKind.wrap IntKind.i64 ((↑(List.length L) : Int) - 1) < (↑(List.length L) : Int)), true), (decide (0 ≤ (↑0 : Int) + IntKind.wrap IntKind.i64 ((↑(List.length L) : Int) - 1) ∧ (↑0 : Int) + IntKind.wrap IntKind.i64 ((↑(List.length L) : Int) - 1) < (↑(List.length L) : Int)), true), (decide (0 ≤ IntKind.wrap IntKind.i64 (IntKind.wrap IntKind.i64 ((↑(List.length L) : Int) - 1) - N) ∧ IntKind.wrap IntKind.i64 (IntKind.wrap IntKind.i64 ((↑(List.length L) : Int) - 1) - N) < (↑(List.length L) : Int)), true), (decide (0 ≤ (↑0 : Int) + IntKind.wrap IntKind.i64 (IntKind.wrap IntKind.i64 ((↑(List.length L) : Int) - 1) - N) ∧ (↑0 : Int) + IntKind.wrap IntKind.i64 (IntKind.wrap IntKind.i64 ((↑(List.length L) : Int) - 1) - N) < (↑(List.length L) : Int)), true)]) : Is (evCall (EG (rws (mkRow A0 L.length 5 (F5 L) :: Rt)) false (mopt0R L ++ tabS) (mops0R L)) 60 25 [.ptr 0 0, .rsl 0 L.length c, .agg [.int .i64 false W, .int .i64 false N, .bv .u64 x.a, .bv .u64 x.b, .bv .u64 x.c, .bv .u64 x.d, .bv .u64 x.l]] ⟨[.cells [.gsl .any 1 0 L.length, .bool true true] t0, .row L.length 5 (F5 L) cvE none], [false, false, false, false, true, false, false, false, false, false, false], allW⟩ (fun v m => (renA [0, 1, 14, 16] v, ([0, 1, 14, 16] : List Nat).map fun l => (m.H[l]?).bind (renI [0, 1, 14, 16])) = (some (.tuple [.ptr 0 0, .gsl .top 3 0 (List.length L), .bool true true]), ([AIt.cells [.gsl .top 2 0 (List.length L), .bool true true] t0, AIt.row (List.length L) 5 (F5 L) cvE none, .row L.length 5 (putR 5 (putR 5 (fun i => F5 L (0 + i)) (Int.toNat ((0 : Int) + IntKind.wrap IntKind.i64 ((L.length : Int) - 1))) 0 (List.take 5 (F5 L (0 + Int.toNat ((0 : Int) + IntKind.wrap IntKind.i64 (IntKind.wrap IntKind.i64 ((L.length : Int) - 1) - N)))))) (Int.toNat ((0 : Int) + IntKind.wrap IntKind.i64 (IntKind.wrap IntKind.i64 ((L.length : Int) - 1) - N))) 0 (List.take 5 (F5 L (0 + Int.toNat ((0 : Int) + IntKind.wrap IntKind.i64 ((L.length : Int) - 1)))))) cvE none, .row L.length 5 (putR 5 (putR 5 (fun i => RowI.F (mkRow A0 L.length 5 (F5 L)) (i : Int)) (Int.toNat ((0 : Int) + IntKind.wrap IntKind.i64 ((L.length : Int) - 1))) 0 (List.take 5 (RowI.F (mkRow A0 L.length 5 (F5 L)) (IntKind.wrap IntKind.i64 (IntKind.wrap IntKind.i64 ((L.length : Int) - 1) - N))))) (Int.toNat ((0 : Int) + IntKind.wrap IntKind.i64 (IntKind.wrap IntKind.i64 ((L.length : Int) - 1) - N))) 0 (List.take 5 (RowI.F (mkRow A0 L.length 5 (F5 L)) (IntKind.wrap IntKind.i64 ((L.length : Int) - 1))))) cvE none] : Mem).map some))) := ev_wayP (by kernel_rfl) h
theorem ayr_r1 (A0 : Option Addr) (Rt : List RowI) (c : Nat) (L : List V5) (W N : Int) (x : V5) (t0 : TypeId) (h : AllE [(W == 0, false), (W == 1, false), (W == 2, false), (W == 3, false), (W == 4, false), (W == 5, true), (decide (N < 0), true), (decide (N < 0), true), (decide (N < 0), true)]) : Is (evCall (EG (rws (mkRow A0 L.length 5 (F5 L) :: Rt)) false (mopt0R L ++ tabS) (mops0R L)) 60 25 [.ptr 0 0, .rsl 0 L.length c, .agg [.int .i64 false W, .int .i64 false N, .bv .u64 x.a, .bv .u64 x.b, .bv .u64 x.c, .bv .u64 x.d, .bv .u64 x.l]] ⟨[.cells [.gsl .any 1 0 L.length, .bool true true] t0, .row L.length 5 (F5 L) cvE none], [false, false, false, false, false, true, true, true, true], allW⟩ (fun v m => (renA [0, 1] v, ([0, 1] : List Nat).map fun l => (m.H[l]?).bind (renI [0, 1])) = (some (.tuple [.ptr 0 0, .rsl 0 (List.length L) c, .bool true true]), ([AIt.cells [.gsl .any 1 0 (List.length L), .bool true true] t0, AIt.row (List.length L) 5 (F5 L) cvE none] : Mem).map some))) := ev_wayP (by kernel_rfl) h
theorem ayr_r3 (A0 : Option Addr) (Rt : List RowI) (c : Nat) (L : List V5) (W N : Int) (x : V5) (t0 : TypeId) (h : AllE [(W == 0, false), (W == 1, false), (W == 2, false), (W == 3, false), (W == 4, false), (W == 5, true), (decide (N < 0), false), (decide (0 ≤ N), true), (rowIs (F5 L) (List.length L) L, true), (decide (List.length L = List.length L), true), (decide (List.length L ≤ 1000000), true), (decide (N < 0), false), (decide (0 ≤ N), true), (decide (List.length L = List.length L), true), (decide (List.length L ≤ 1000000), true), (joinTo L (Int.toNat N) (List.length L - Int.toNat N) != joinTo L (Int.toNat N) (List.length L - Int.toNat N), false), (W == 5, true), (decide (N < 0), false), (decide (0 ≤ N), true), (rowIs (F5 L) (List.length L) L, true), (decide (List.length L = List.length L), true), (decide (List.length L ≤ 1000000), true), (decide (0 ≤ N), true), (decide (List.length L = List.length L), true), (decide (List.length L ≤ 1000000), true)]) : Is (evCall (EG (rws (mkRow A0 L.length 5 (F5 L) :: Rt)) false (mopt0R L ++ tabS) (mops0R L)) 60 25 [.ptr 0 0, .rsl 0 L.length c, .agg [.int .i64 false W, .int .i64 false N, .bv .u64 x.a, .bv .u64 x.b, .bv .u64 x.c, .bv .u64 x.d, .bv .u64 x.l]] ⟨[.cells [.gsl .any 1 0 L.length, .bool true true] t0, .row L.length 5 (F5 L) cvE none], [false, false, false, false, false, true, false, false, false, true, false], allW⟩ (fun v m => (renA [0, 1, 20, 21] v, ([0, 1, 20, 21] : List Nat).map fun l => (m.H[l]?).bind (renI [0, 1, 20, 21])) = (some (.tuple [.ptr 0 0, .gsl .any 3 0 (List.length L), .bool true true]), ([AIt.cells [.gsl .any 2 0 (List.length L), .bool true true] t0, AIt.row (List.length L) 5 (F5 L) cvE none, .row L.length 5 (F5 (raiseTo L (Int.toNat N) L.length x.l)) cvE none, .row L.length 5 (F5 (raiseTo L (Int.toNat N) L.length x.l)) cvE none] : Mem).map some))) := ev_wayP (by kernel_rfl) h
theorem ayr_j1 (A0 : Option Addr) (Rt : List RowI) (c : Nat) (L : List V5) (W N : Int) (x : V5) (t0 : TypeId) (h : AllE [(W == 0, false), (W == 1, false), (W == 2, false), (W == 3, false), (W == 4, false), (W == 5, false), (W == 6, true), (decide (N < 0), true), (decide (N < 0), true), (decide (N < 0), true)]) : Is (evCall (EG (rws (mkRow A0 L.length 5 (F5 L) :: Rt)) false (mopt0R L ++ tabS) (mops0R L)) 60 25 [.ptr 0 0, .rsl 0 L.length c, .agg [.int .i64 false W, .int .i64 false N, .bv .u64 x.a, .bv .u64 x.b, .bv .u64 x.c, .bv .u64 x.d, .bv .u64 x.l]] ⟨[.cells [.gsl .any 1 0 L.length, .bool true true] t0, .row L.length 5 (F5 L) cvE none], [false, false, false, false, false, false, true, true, true, true], allW⟩ (fun v m => (renA [0, 1] v, ([0, 1] : List Nat).map fun l => (m.H[l]?).bind (renI [0, 1])) = (some (.tuple [.ptr 0 0, .rsl 0 (List.length L) c, .bool true true]), ([AIt.cells [.gsl .any 1 0 (List.length L), .bool true true] t0, AIt.row (List.length L) 5 (F5 L) cvE none] : Mem).map some))) := ev_wayP (by kernel_rfl) h
theorem ayr_j3 (A0 : Option Addr) (Rt : List RowI) (c : Nat) (L : List V5) (W N : Int) (x : V5) (t0 : TypeId) (h : AllE [(W == 0, false), (W == 1, false), (W == 2, false), (W == 3, false), (W == 4, false), (W == 5, false), (W == 6, true), (decide (N < 0), false), (decide (0 ≤ N), true), (rowIs (F5 L) (List.length L) L, true), (decide (List.length L = List.length L), true), (decide (List.length L ≤ 1000000), true), (decide (N < 0), false), (decide (0 ≤ N), true), (decide (List.length L = List.length L), true), (decide (List.length L ≤ 1000000), true), (joinTo L (Int.toNat N) (List.length L - Int.toNat N) != joinTo L (Int.toNat N) (List.length L - Int.toNat N), false), (W == 5, false)]) : Is (evCall (EG (rws (mkRow A0 L.length 5 (F5 L) :: Rt)) false (mopt0R L ++ tabS) (mops0R L)) 60 25 [.ptr 0 0, .rsl 0 L.length c, .agg [.int .i64 false W, .int .i64 false N, .bv .u64 x.a, .bv .u64 x.b, .bv .u64 x.c, .bv .u64 x.d, .bv .u64 x.l]] ⟨[.cells [.gsl .any 1 0 L.length, .bool true true] t0, .row L.length 5 (F5 L) cvE none], [false, false, false, false, false, false, true, false, false, false, false], allW⟩ (fun v m => (renA [0, 1] v, ([0, 1] : List Nat).map fun l => (m.H[l]?).bind (renI [0, 1])) = (some (.tuple [.ptr 0 0, .rsl 0 (List.length L) c, .bool true true]), ([AIt.cells [.gsl .any 1 0 (List.length L), .bool true true] t0, AIt.row (List.length L) 5 (F5 L) cvE none] : Mem).map some))) := ev_wayP (by kernel_rfl) h
theorem ayr_c (A0 : Option Addr) (Rt : List RowI) (c : Nat) (L : List V5) (W N : Int) (x : V5) (t0 : TypeId) (h : AllE [(W == 0, false), (W == 1, false), (W == 2, false), (W == 3, false), (W == 4, false), (W == 5, false), (W == 6, false), (decide (List.length L ≤ 1000000), true), (decide (0 + List.length L ≤ List.length L), true)]) : Is (evCall (EG (rws (mkRow A0 L.length 5 (F5 L) :: Rt)) false (mopt0R L ++ tabS) (mops0R L)) 60 25 [.ptr 0 0, .rsl 0 L.length c, .agg [.int .i64 false W, .int .i64 false N, .bv .u64 x.a, .bv .u64 x.b, .bv .u64 x.c, .bv .u64 x.d, .bv .u64 x.l]] ⟨[.cells [.gsl .any 1 0 L.length, .bool true true] t0, .row L.length 5 (F5 L) cvE none], [false, false, false, false, false, false, false], allW⟩ (fun v m => (renA [0, 1, 5, 4] v, ([0, 1, 5, 4] : List Nat).map fun l => (m.H[l]?).bind (renI [0, 1, 5, 4])) = (some (.tuple [.ptr 2 0, .rsl 0 (List.length L) c, .bool true true]), ([AIt.cells [.gsl .any 1 0 (List.length L), .bool true true] t0, AIt.row (List.length L) 5 (F5 L) cvE none, AIt.cells [.gsl .top 3 0 (List.length L), .bool true true] 74, .row L.length 5 (fun i => F5 L (0 + i)) cvE none] : Mem).map some))) := ev_wayP (by kernel_rfl) h
end Go.Proofs.Ytcfomhnfhalmaaa
end

section
set_option linter.unusedVariables false
set_option linter.unusedSimpArgs false
set_option maxRecDepth 100000
namespace Go.Proofs.Ytcfomhnfhalmaaa
open Go.RowKit

theorem mopsR_ok (A0 : Option Addr) (Rt : List RowI) (L : List V5) (hR : RwOK (rws (mkRow A0 L.length 5 (F5 L) :: Rt))) (hRp : ∀ j r, (rws (mkRow A0 L.length 5 (F5 L) :: Rt)) j = some r → 0 < r.n → 0 < (r.V 0).length) (N : Int) : ∀ p ∈ mopsR L N, GoodM Try.prog (rws (mkRow A0 L.length 5 (F5 L) :: Rt)) p.1 p.2 := goodM_cons (q := (_, _)) (frR_ok (joinS_ok hR L)) (goodM_cons (q := (_, _)) (frF_ok (raiseS_ok hR L)) (goodM_cons (q := (_, _)) (frF_ok (revS_ok hR _)) (goodM_cons (q := (_, _)) (frR_ok (rrRS_ok A0 Rt L hR)) (goodM_cons (q := (_, _)) (frR_ok (rpRS_ok A0 Rt L hR)) goodM_nil))))
theorem mops0R_ok (A0 : Option Addr) (Rt : List RowI) (L : List V5) (hR : RwOK (rws (mkRow A0 L.length 5 (F5 L) :: Rt))) (hRp : ∀ j r, (rws (mkRow A0 L.length 5 (F5 L) :: Rt)) j = some r → 0 < r.n → 0 < (r.V 0).length) : ∀ p ∈ mops0R L, GoodM Try.prog (rws (mkRow A0 L.length 5 (F5 L) :: Rt)) p.1 p.2 := goodM_cons (q := (_, _)) (frR_ok (joinS_ok hR L)) (goodM_cons (q := (_, _)) (frF_ok (raiseS_ok hR L)) (goodM_cons (q := (_, _)) (frR_ok (rrRS_ok A0 Rt L hR)) goodM_nil))
theorem moptR_ok (A0 : Option Addr) (Rt : List RowI) (L : List V5) (hR : RwOK (rws (mkRow A0 L.length 5 (F5 L) :: Rt))) (hRp : ∀ j r, (rws (mkRow A0 L.length 5 (F5 L) :: Rt)) j = some r → 0 < r.n → 0 < (r.V 0).length) (N : Int) : ∀ p ∈ moptR L N ++ tabS, Good Try.prog (rws (mkRow A0 L.length 5 (F5 L) :: Rt)) p.1 p.2 := fun p hp => by
  rcases List.mem_append.1 hp with hp | hp
  · exact good_cons (p := (_, _)) (frP_ok (rjRS_ok A0 Rt L hR hRp)) (good_cons (p := (_, _)) (frP_ok (raGGS_ok hR hRp _ _)) good_nil) p hp
  · exact tabS_ok p hp
theorem mopt0R_ok (A0 : Option Addr) (Rt : List RowI) (L : List V5) (hR : RwOK (rws (mkRow A0 L.length 5 (F5 L) :: Rt))) (hRp : ∀ j r, (rws (mkRow A0 L.length 5 (F5 L) :: Rt)) j = some r → 0 < r.n → 0 < (r.V 0).length) : ∀ p ∈ mopt0R L ++ tabS, Good Try.prog (rws (mkRow A0 L.length 5 (F5 L) :: Rt)) p.1 p.2 := fun p hp => by
  rcases List.mem_append.1 hp with hp | hp
  · exact good_cons (p := (_, _)) (frP_ok (rjRS_ok A0 Rt L hR hRp)) good_nil p hp
  · exact tabS_ok p hp
noncomputable def actRR (L : List V5) : SmF
  | [.ptr 0 0, .rsl 0 m c, .agg [.int .i64 lw W, .int .i64 ln N, .bv .u64 a, .bv .u64 b, .bv .u64 c', .bv .u64 d, .bv .u64 l]], [.cells [.gsl k 1 0 n, .bool l2 true] t0, .row N0 5 F e none] => some (.tuple [.ptr 2 0, .rsl 0 m c, .bool true true], [.gone, .row n 5 (F5 L) e (some 3), .cells [.gsl .any 3 0 n, .bool true true] t0, .row n 5 (F5 L) e none], [rowIs F n L, decide (n ≤ N0), decide (n < 1000), decide (e = cvE), decide (t0 = 74), decide (m = L.length), chgB W N L == false])
  | _, _ => none
noncomputable def actRG (L : List V5) : SmF
  | [.ptr 0 0, .rsl 0 m c, .agg [.int .i64 lw W, .int .i64 ln N, .bv .u64 a, .bv .u64 b, .bv .u64 c', .bv .u64 d, .bv .u64 l]], [.cells [.gsl k 1 0 n, .bool l2 true] t0, .row N0 5 F e none] => some (.tuple [.ptr 2 0, .gsl .any 4 0 (nextL W N ⟨a, b, c', d, l⟩ L).length, .bool true true], [.gone, .row n 5 (F5 L) e (some 3), .cells [.gsl .any 3 0 (nextL W N ⟨a, b, c', d, l⟩ L).length, .bool true true] t0, .row (nextL W N ⟨a, b, c', d, l⟩ L).length 5 (F5 (nextL W N ⟨a, b, c', d, l⟩ L)) e none, .row (nextL W N ⟨a, b, c', d, l⟩ L).length 5 (F5 (nextL W N ⟨a, b, c', d, l⟩ L)) e none], [rowIs F n L, decide (n ≤ N0), decide (n < 1000), decide (e = cvE), decide (t0 = 74), decide (m = L.length), chgB W N L])
  | _, _ => none
set_option maxHeartbeats 4000000 in
theorem actRR_ok (A0 : Option Addr) (Rt : List RowI) (L : List V5) (hR : RwOK (rws (mkRow A0 L.length 5 (F5 L) :: Rt))) (hRp : ∀ j r, (rws (mkRow A0 L.length 5 (F5 L) :: Rt)) j = some r → 0 < r.n → 0 < (r.V 0).length) : GoodS Try.prog (rws (mkRow A0 L.length 5 (F5 L) :: Rt)) 25 (actRR L) := by
  refine ⟨enters_of Try.func25 (by kernel_rfl) rfl, fun args H v H' cs h hcs Hr w Args hA hB hn hO => ?_⟩
  unfold actRR at h
  split at h
  case h_2 => cases h
  rename_i m c lw W ln N a b c' d l k n l2 t0 N0 F e
  cases h
  simp only [List.mem_cons, List.not_mem_nil, or_false, forall_eq_or_imp, forall_eq] at hcs
  obtain ⟨c1, c2, c3, c4, c5, c6, c7⟩ := hcs
  have c2 := of_decide_eq_true c2
  have c3 := of_decide_eq_true c3
  have c4 := of_decide_eq_true c4
  have c5 := of_decide_eq_true c5
  have c6 := of_decide_eq_true c6
  obtain ⟨d1, d2⟩ := rowIs_spec c1
  subst c4
  subst c5
  subst c6
  subst d1
  generalize hx : (⟨a, b, c', d, l⟩ : V5) = x
  have hE := EG_ok hR false (moptR_ok A0 Rt L hR hRp N) (mopsR_ok A0 Rt L hR hRp N)
  have hE0 := EG_ok hR false (mopt0R_ok A0 Rt L hR hRp) (mops0R_ok A0 Rt L hR hRp)
  have hA' : RelL (rws (mkRow A0 L.length 5 (F5 L) :: Rt)) (nums Hr) [.ptr 0 0, .rsl 0 L.length c, .agg [.int .i64 false W, .int .i64 false N, .bv .u64 x.a, .bv .u64 x.b, .bv .u64 x.c, .bv .u64 x.d, .bv .u64 x.l]] Args := by
    subst hx
    cases hA with | cons h1 hA =>
    cases hA with | cons h2 hA =>
    cases hA with | cons h3 hA =>
    cases hA
    cases h3 with | agg h3 =>
    cases h3 with | cons g1 h3 =>
    cases h3 with | cons g2 h3 =>
    exact .cons h1 (.cons (show Rel _ _ (.rsl 0 L.length c) _ from h2) (.cons (.agg (.cons (wkA_int _ _ _ g1) (.cons (wkA_int _ _ _ g2) h3))) .nil))
  have hW0 : wkM [.cells [.gsl k 1 0 L.length, .bool l2 true] 74, .row N0 5 F cvE none] [.cells [.gsl .any 1 0 L.length, .bool true true] 74, .row L.length 5 (F5 L) cvE none] := ⟨⟨rfl, wkA_any, wkA_bool, trivial⟩, ⟨c2, rfl, rfl, rfl, d2⟩, trivial⟩
  obtain ⟨hB', hn'⟩ := hW0.mem hB hn
  have hO' := hW0.own hO
  have hl2 : Hr.length = 2 := hB.1
  have hc7 : chgB W N L = false := by cases hz : chgB W N L <;> simp_all
  have hc := chg_f.1 hc7
  clear c7 hc7
  obtain rfl | rfl | rfl | rfl | rfl | rfl | rfl | hW : W = 0 ∨ W = 1 ∨ W = 2 ∨ W = 3 ∨ W = 4 ∨ W = 5 ∨ W = 6 ∨ (W < 0 ∨ 6 < W) := by omega
  · exact absurd (.inl rfl) hc
  · exact absurd (.inr (.inl rfl)) hc
  · by_cases h1 : N < 0
    · exact keepR hl2 (ev_callW hE0 (H2 := _) 60 [0, 1] (by decide) (by rfl) rfl (ayr_o1 A0 Rt c L 2 N x 74 (allE_cons (by first | rfl | (simp; omega)) (allE_cons (by first | rfl | (simp; omega)) (allE_cons rfl (allE_cons (by first | exact decide_eq_true (by omega) | exact decide_eq_true (by simp only [IntKind.wrap_i64]; omega)) (allE_cons (by first | exact decide_eq_true (by omega) | exact decide_eq_true (by simp only [IntKind.wrap_i64]; omega)) allE_nil)))))) (wkA.refl _) (wkM.refl _) hA' hB' hn' hO')
    · have h2 : N > L.length := by omega
      exact keepR hl2 (ev_callW hE0 (H2 := _) 60 [0, 1] (by decide) (by rfl) rfl (ayr_o2 A0 Rt c L 2 N x 74 (allE_cons (by first | rfl | (simp; omega)) (allE_cons (by first | rfl | (simp; omega)) (allE_cons rfl (allE_cons (by first | exact decide_eq_false (by omega) | exact decide_eq_false (by simp only [IntKind.wrap_i64]; omega)) (allE_cons (by first | exact decide_eq_true (by omega) | exact decide_eq_true (by simp only [IntKind.wrap_i64]; omega)) (allE_cons (by first | exact decide_eq_false (by omega) | exact decide_eq_false (by simp only [IntKind.wrap_i64]; omega)) (allE_cons (by first | exact decide_eq_true (by omega) | exact decide_eq_true (by simp only [IntKind.wrap_i64]; omega)) allE_nil)))))))) (wkA.refl _) (wkM.refl _) hA' hB' hn' hO')
  · by_cases h1 : N < 1
    · exact keepR hl2 (ev_callW hE0 (H2 := _) 60 [0, 1] (by decide) (by rfl) rfl (ayr_d1 A0 Rt c L 3 N x 74 (allE_cons (by first | rfl | (simp; omega)) (allE_cons (by first | rfl | (simp; omega)) (allE_cons (by first | rfl | (simp; omega)) (allE_cons rfl (allE_cons (by first | exact decide_eq_true (by omega) | exact decide_eq_true (by simp only [IntKind.wrap_i64]; omega)) (allE_cons (by first | exact decide_eq_true (by omega) | exact decide_eq_true (by simp only [IntKind.wrap_i64]; omega)) allE_nil))))))) (wkA.refl _) (wkM.refl _) hA' hB' hn' hO')
    by_cases h2 : N > 16
    · exact keepR hl2 (ev_callW hE0 (H2 := _) 60 [0, 1] (by decide) (by rfl) rfl (ayr_d2 A0 Rt c L 3 N x 74 (allE_cons (by first | rfl | (simp; omega)) (allE_cons (by first | rfl | (simp; omega)) (allE_cons (by first | rfl | (simp; omega)) (allE_cons rfl (allE_cons (by first | exact decide_eq_false (by omega) | exact decide_eq_false (by simp only [IntKind.wrap_i64]; omega)) (allE_cons (by first | exact decide_eq_true (by omega) | exact decide_eq_true (by simp only [IntKind.wrap_i64]; omega)) (allE_cons (by first | exact decide_eq_false (by omega) | exact decide_eq_false (by simp only [IntKind.wrap_i64]; omega)) (allE_cons (by first | exact decide_eq_true (by omega) | exact decide_eq_true (by simp only [IntKind.wrap_i64]; omega)) allE_nil))))))))) (wkA.refl _) (wkM.refl _) hA' hB' hn' hO')
    have h3 : N > L.length := by omega
    exact keepR hl2 (ev_callW hE0 (H2 := _) 60 [0, 1] (by decide) (by rfl) rfl (ayr_d3 A0 Rt c L 3 N x 74 (allE_cons (by first | rfl | (simp; omega)) (allE_cons (by first | rfl | (simp; omega)) (allE_cons (by first | rfl | (simp; omega)) (allE_cons rfl (allE_cons (by first | exact decide_eq_false (by omega) | exact decide_eq_false (by simp only [IntKind.wrap_i64]; omega)) (allE_cons (by first | exact decide_eq_false (by omega) | exact decide_eq_false (by simp only [IntKind.wrap_i64]; omega)) (allE_cons (by first | exact decide_eq_true (by omega) | exact decide_eq_true (by simp only [IntKind.wrap_i64]; omega)) (allE_cons (by first | exact decide_eq_false (by omega) | exact decide_eq_false (by simp only [IntKind.wrap_i64]; omega)) (allE_cons (by first | exact decide_eq_false (by omega) | exact decide_eq_false (by simp only [IntKind.wrap_i64]; omega)) (allE_cons (by first | exact decide_eq_true (by omega) | exact decide_eq_true (by simp only [IntKind.wrap_i64]; omega)) allE_nil))))))))))) (wkA.refl _) (wkM.refl _) hA' hB' hn' hO')
  · by_cases h1 : N < 1
    · exact keepR hl2 (ev_callW hE0 (H2 := _) 60 [0, 1] (by decide) (by rfl) rfl (ayr_s1 A0 Rt c L 4 N x 74 (allE_cons (by first | rfl | (simp; omega)) (allE_cons (by first | rfl | (simp; omega)) (allE_cons (by first | rfl | (simp; omega)) (allE_cons (by first | rfl | (simp; omega)) (allE_cons rfl (allE_cons (by first | exact decide_eq_true (by omega) | exact decide_eq_true (by simp only [IntKind.wrap_i64]; omega)) (allE_cons (by first | exact decide_eq_true (by omega) | exact decide_eq_true (by simp only [IntKind.wrap_i64]; omega)) allE_nil)))))))) (wkA.refl _) (wkM.refl _) hA' hB' hn' hO')
    by_cases h2 : N > 16
    · exact keepR hl2 (ev_callW hE0 (H2 := _) 60 [0, 1] (by decide) (by rfl) rfl (ayr_s2 A0 Rt c L 4 N x 74 (allE_cons (by first | rfl | (simp; omega)) (allE_cons (by first | rfl | (simp; omega)) (allE_cons (by first | rfl | (simp; omega)) (allE_cons (by first | rfl | (simp; omega)) (allE_cons rfl (allE_cons (by first | exact decide_eq_false (by omega) | exact decide_eq_false (by simp only [IntKind.wrap_i64]; omega)) (allE_cons (by first | exact decide_eq_true (by omega) | exact decide_eq_true (by simp only [IntKind.wrap_i64]; omega)) (allE_cons (by first | exact decide_eq_false (by omega) | exact decide_eq_false (by simp only [IntKind.wrap_i64]; omega)) (allE_cons (by first | exact decide_eq_true (by omega) | exact decide_eq_true (by simp only [IntKind.wrap_i64]; omega)) allE_nil)))))))))) (wkA.refl _) (wkM.refl _) hA' hB' hn' hO')
    have h3 : N + 1 > L.length := by omega
    exact keepR hl2 (ev_callW hE0 (H2 := _) 60 [0, 1] (by decide) (by rfl) rfl (ayr_s3 A0 Rt c L 4 N x 74 (allE_cons (by first | rfl | (simp; omega)) (allE_cons (by first | rfl | (simp; omega)) (allE_cons (by first | rfl | (simp; omega)) (allE_cons (by first | rfl | (simp; omega)) (allE_cons rfl (allE_cons (by first | exact decide_eq_false (by omega) | exact decide_eq_false (by simp only [IntKind.wrap_i64]; omega)) (allE_cons (by first | exact decide_eq_false (by omega) | exact decide_eq_false (by simp only [IntKind.wrap_i64]; omega)) (allE_cons (by first | exact decide_eq_true (by omega) | exact decide_eq_true (by simp only [IntKind.wrap_i64]; omega)) (allE_cons (by first | exact decide_eq_false (by omega) | exact decide_eq_false (by simp only [IntKind.wrap_i64]; omega)) (allE_cons (by first | exact decide_eq_false (by omega) | exact decide_eq_false (by simp only [IntKind.wrap_i64]; omega)) (allE_cons (by first | exact decide_eq_true (by omega) | exact decide_eq_true (by simp only [IntKind.wrap_i64]; omega)) allE_nil)))))))))))) (wkA.refl _) (wkM.refl _) hA' hB' hn' hO')
  · have h1 : N < 0 := by omega
    exact keepR hl2 (ev_callW hE0 (H2 := _) 60 [0, 1] (by decide) (by rfl) rfl (ayr_r1 A0 Rt c L 5 N x 74 (allE_cons (by first | rfl | (simp; omega)) (allE_cons (by first | rfl | (simp; omega)) (allE_cons (by first | rfl | (simp; omega)) (allE_cons (by first | rfl | (simp; omega)) (allE_cons (by first | rfl | (simp; omega)) (allE_cons rfl (allE_cons (by first | exact decide_eq_true (by omega) | exact decide_eq_true (by simp only [IntKind.wrap_i64]; omega)) (allE_cons (by first | exact decide_eq_true (by omega) | exact decide_eq_true (by simp only [IntKind.wrap_i64]; omega)) (allE_cons (by first | exact decide_eq_true (by omega) | exact decide_eq_true (by simp only [IntKind.wrap_i64]; omega)) allE_nil)))))))))) (wkA.refl _) (wkM.refl _) hA' hB' hn' hO')
  · by_cases h1 : N < 0
    · exact keepR hl2 (ev_callW hE0 (H2 := _) 60 [0, 1] (by decide) (by rfl) rfl (ayr_j1 A0 Rt c L 6 N x 74 (allE_cons (by first | rfl | (simp; omega)) (allE_cons (by first | rfl | (simp; omega)) (allE_cons (by first | rfl | (simp; omega)) (allE_cons (by first | rfl | (simp; omega)) (allE_cons (by first | rfl | (simp; omega)) (allE_cons (by first | rfl | (simp; omega)) (allE_cons rfl (allE_cons (by first | exact decide_eq_true (by omega) | exact decide_eq_true (by simp only [IntKind.wrap_i64]; omega)) (allE_cons (by first | exact decide_eq_true (by omega) | exact decide_eq_true (by simp only [IntKind.wrap_i64]; omega)) (allE_cons (by first | exact decide_eq_true (by omega) | exact decide_eq_true (by simp only [IntKind.wrap_i64]; omega)) allE_nil))))))))))) (wkA.refl _) (wkM.refl _) hA' hB' hn' hO')
    exact keepR hl2 (ev_callW hE0 (H2 := _) 60 [0, 1] (by decide) (by rfl) rfl (ayr_j3 A0 Rt c L 6 N x 74 (allE_cons (by first | rfl | (simp; omega)) (allE_cons (by first | rfl | (simp; omega)) (allE_cons (by first | rfl | (simp; omega)) (allE_cons (by first | rfl | (simp; omega)) (allE_cons (by first | rfl | (simp; omega)) (allE_cons (by first | rfl | (simp; omega)) (allE_cons rfl (allE_cons (by first | exact decide_eq_false (by omega) | exact decide_eq_false (by simp only [IntKind.wrap_i64]; omega)) (allE_cons (by first | exact decide_eq_true (by omega) | exact decide_eq_true (by simp only [IntKind.wrap_i64]; omega)) (allE_cons (rowIs_self L) (allE_cons (decide_eq_true rfl) (allE_cons (by first | exact decide_eq_true (by omega) | exact decide_eq_true (by simp only [IntKind.wrap_i64]; omega)) (allE_cons (by first | exact decide_eq_false (by omega) | exact decide_eq_false (by simp only [IntKind.wrap_i64]; omega)) (allE_cons (by first | exact decide_eq_true (by omega) | exact decide_eq_true (by simp only [IntKind.wrap_i64]; omega)) (allE_cons (decide_eq_true rfl) (allE_cons (by first | exact decide_eq_true (by omega) | exact decide_eq_true (by simp only [IntKind.wrap_i64]; omega)) (allE_cons (by rw [bne_self_eq_false]) (allE_cons (by first | rfl | (simp; omega)) allE_nil))))))))))))))))))) (wkA.refl _) (wkM.refl _) hA' hB' hn' hO')
  · exact copyR hl2 (fun i _ => by rw [Nat.zero_add]) (ev_callW hE0 (H2 := _) 60 [0, 1, 5, 4] (by decide) (by rfl) rfl (ayr_c A0 Rt c L W N x 74 (allE_cons (by first | rfl | (simp; omega)) (allE_cons (by first | rfl | (simp; omega)) (allE_cons (by first | rfl | (simp; omega)) (allE_cons (by first | rfl | (simp; omega)) (allE_cons (by first | rfl | (simp; omega)) (allE_cons (by first | rfl | (simp; omega)) (allE_cons (by first | rfl | (simp; omega)) (allE_cons (by first | exact decide_eq_true (by omega) | exact decide_eq_true (by simp only [IntKind.wrap_i64]; omega)) (allE_cons (by first | exact decide_eq_true (by omega) | exact decide_eq_true (by simp only [IntKind.wrap_i64]; omega)) allE_nil)))))))))) (wkA.refl _) (wkM.refl _) hA' hB' hn' hO')
set_option maxHeartbeats 4000000 in
theorem actRG_ok (A0 : Option Addr) (Rt : List RowI) (L : List V5) (hR : RwOK (rws (mkRow A0 L.length 5 (F5 L) :: Rt))) (hRp : ∀ j r, (rws (mkRow A0 L.length 5 (F5 L) :: Rt)) j = some r → 0 < r.n → 0 < (r.V 0).length) : GoodS Try.prog (rws (mkRow A0 L.length 5 (F5 L) :: Rt)) 25 (actRG L) := by
  refine ⟨enters_of Try.func25 (by kernel_rfl) rfl, fun args H v H' cs h hcs Hr w Args hA hB hn hO => ?_⟩
  unfold actRG at h
  split at h
  case h_2 => cases h
  rename_i m c lw W ln N a b c' d l k n l2 t0 N0 F e
  cases h
  simp only [List.mem_cons, List.not_mem_nil, or_false, forall_eq_or_imp, forall_eq] at hcs
  obtain ⟨c1, c2, c3, c4, c5, c6, c7⟩ := hcs
  have c2 := of_decide_eq_true c2
  have c3 := of_decide_eq_true c3
  have c4 := of_decide_eq_true c4
  have c5 := of_decide_eq_true c5
  have c6 := of_decide_eq_true c6
  obtain ⟨d1, d2⟩ := rowIs_spec c1
  subst c4
  subst c5
  subst c6
  subst d1
  generalize hx : (⟨a, b, c', d, l⟩ : V5) = x
  have hE := EG_ok hR false (moptR_ok A0 Rt L hR hRp N) (mopsR_ok A0 Rt L hR hRp N)
  have hE0 := EG_ok hR false (mopt0R_ok A0 Rt L hR hRp) (mops0R_ok A0 Rt L hR hRp)
  have hA' : RelL (rws (mkRow A0 L.length 5 (F5 L) :: Rt)) (nums Hr) [.ptr 0 0, .rsl 0 L.length c, .agg [.int .i64 false W, .int .i64 false N, .bv .u64 x.a, .bv .u64 x.b, .bv .u64 x.c, .bv .u64 x.d, .bv .u64 x.l]] Args := by
    subst hx
    cases hA with | cons h1 hA =>
    cases hA with | cons h2 hA =>
    cases hA with | cons h3 hA =>
    cases hA
    cases h3 with | agg h3 =>
    cases h3 with | cons g1 h3 =>
    cases h3 with | cons g2 h3 =>
    exact .cons h1 (.cons (show Rel _ _ (.rsl 0 L.length c) _ from h2) (.cons (.agg (.cons (wkA_int _ _ _ g1) (.cons (wkA_int _ _ _ g2) h3))) .nil))
  have hW0 : wkM [.cells [.gsl k 1 0 L.length, .bool l2 true] 74, .row N0 5 F cvE none] [.cells [.gsl .any 1 0 L.length, .bool true true] 74, .row L.length 5 (F5 L) cvE none] := ⟨⟨rfl, wkA_any, wkA_bool, trivial⟩, ⟨c2, rfl, rfl, rfl, d2⟩, trivial⟩
  obtain ⟨hB', hn'⟩ := hW0.mem hB hn
  have hO' := hW0.own hO
  have hl2 : Hr.length = 2 := hB.1
  have hc := chg_t.1 c7
  clear c7
  obtain rfl | rfl | rfl | rfl | rfl | rfl | rfl | hW : W = 0 ∨ W = 1 ∨ W = 2 ∨ W = 3 ∨ W = 4 ∨ W = 5 ∨ W = 6 ∨ (W < 0 ∨ 6 < W) := by omega
  · skip
    have hnx : nextL 0 N x L = pushL L x := by unfold nextL; rw [if_neg (by rw [chg_t.2 (.inl rfl)]; decide)]; rfl
    rw [hnx]
    refine newR hl2 (push_len L _).symm (fun i hi => ?_) (fun i hi => ?_) (ev_callW hE0 (H2 := _) 60 [0, 1, 12, 17] (by decide) (by rfl) rfl (ayr_p0 A0 Rt c L 0 N x 74 (allE_cons rfl (allE_cons (by simp; omega) (allE_cons (by first | exact decide_eq_true (by omega) | exact decide_eq_true (by simp only [IntKind.wrap_i64]; omega)) (allE_cons (by first | exact decide_eq_true (by omega) | exact decide_eq_true (by simp only [IntKind.wrap_i64]; omega)) (allE_cons (by first | exact decide_eq_true (by omega) | exact decide_eq_true (by simp only [IntKind.wrap_i64]; omega)) (allE_cons (by first | exact decide_eq_true (by omega) | exact decide_eq_true (by simp only [IntKind.wrap_i64]; omega)) (allE_cons (by first | exact decide_eq_false (by omega) | exact decide_eq_false (by simp only [IntKind.wrap_i64]; omega)) (allE_cons (by first | exact decide_eq_true (by omega) | exact decide_eq_true (by simp only [IntKind.wrap_i64]; omega)) (allE_cons (by first | exact decide_eq_true (by omega) | exact decide_eq_true (by simp only [IntKind.wrap_i64]; omega)) (allE_cons (by first | exact decide_eq_true (by omega) | exact decide_eq_true (by simp only [IntKind.wrap_i64]; omega)) allE_nil))))))))))) (wkA.refl _) (wkM.refl _) hA' hB' hn' hO')
    · rw [push_len] at hi
      exact push_row hi
    · rw [push_len] at hi
      have hq := push_row (L := L) (y := x) (i := i) hi
      rw [Nat.zero_add] at hq
      exact hq
  · skip
    have hnx : nextL 1 N x L = pushL L x := by unfold nextL; rw [if_neg (by rw [chg_t.2 (.inr (.inl rfl))]; decide)]; rfl
    rw [hnx]
    refine newR hl2 (push_len L _).symm (fun i hi => ?_) (fun i hi => ?_) (ev_callW hE0 (H2 := _) 60 [0, 1, 12, 17] (by decide) (by rfl) rfl (ayr_p1 A0 Rt c L 1 N x 74 (allE_cons (by first | rfl | (simp; omega)) (allE_cons rfl (allE_cons (by simp; omega) (allE_cons (by first | exact decide_eq_true (by omega) | exact decide_eq_true (by simp only [IntKind.wrap_i64]; omega)) (allE_cons (by first | exact decide_eq_true (by omega) | exact decide_eq_true (by simp only [IntKind.wrap_i64]; omega)) (allE_cons (by first | exact decide_eq_true (by omega) | exact decide_eq_true (by simp only [IntKind.wrap_i64]; omega)) (allE_cons (by first | exact decide_eq_true (by omega) | exact decide_eq_true (by simp only [IntKind.wrap_i64]; omega)) (allE_cons (by first | exact decide_eq_false (by omega) | exact decide_eq_false (by simp only [IntKind.wrap_i64]; omega)) (allE_cons (by first | exact decide_eq_true (by omega) | exact decide_eq_true (by simp only [IntKind.wrap_i64]; omega)) (allE_cons (by first | exact decide_eq_true (by omega) | exact decide_eq_true (by simp only [IntKind.wrap_i64]; omega)) (allE_cons (by first | exact decide_eq_true (by omega) | exact decide_eq_true (by simp only [IntKind.wrap_i64]; omega)) allE_nil)))))))))))) (wkA.refl _) (wkM.refl _) hA' hB' hn' hO')
    · rw [push_len] at hi
      exact push_row hi
    · rw [push_len] at hi
      have hq := push_row (L := L) (y := x) (i := i) hi
      rw [Nat.zero_add] at hq
      exact hq
  · have h1 : 0 ≤ N ∧ N ≤ L.length := by omega
    have hnx : nextL 2 N x L = takeL L (L.length - N.toNat) := by unfold nextL; rw [if_neg (by rw [chg_t.2 (.inr (.inr (.inl ⟨rfl, by omega, by omega⟩)))]; decide), if_neg (by decide)]; rfl
    rw [hnx]
    have hw : IntKind.wrap IntKind.i64 ((L.length : Int) - N) = (L.length : Int) - N := by rw [IntKind.wrap_i64]; omega
    have hro1 : rowIs (fun i => F5 L (0 + Int.toNat (IntKind.wrap IntKind.i64 ((L.length : Int) - N)) + i)) (Int.toNat ((L.length : Int) - IntKind.wrap IntKind.i64 ((L.length : Int) - N))) (mapN N.toNat fun i => L.getD (L.length - N.toNat + i) z5) = true := by
      rw [hw]
      refine rowIs_of (by rw [mapN_len]; omega) fun i hi => ?_
      rw [F5_mapN (by omega)]
      show AV.vals? (F5 L (0 + ((L.length : Int) - N).toNat + i)) = _
      rw [show 0 + ((L.length : Int) - N).toNat + i = L.length - N.toNat + i by omega]
      rfl
    have hrv := pop_rev (L := L) (N := N.toNat) (by omega)
    have hro2 : rowIs (F5 (rev5 (mapN N.toNat fun i => L.getD (L.length - N.toNat + i) z5))) (Int.toNat ((L.length : Int) - IntKind.wrap IntKind.i64 ((L.length : Int) - N))) (rev5 (mapN N.toNat fun i => L.getD (L.length - N.toNat + i) z5)) = true := by
      rw [hw]
      exact rowIs_of (by rw [hrv, pop_len]; omega) fun i hi => rfl
    have hro3 : rowIs (F5 (popTo L N.toNat)) N.toNat (popTo L N.toNat) = true := rowIs_of (pop_len _ _) fun i hi => rfl
    have hro4 : alikeB (rev5 (mapN N.toNat fun i => L.getD (L.length - N.toNat + i) z5)) (popTo L N.toNat) (BitVec.ofInt 64 18446744073709551615) = true := by rw [hrv]; exact alikeB_of (Al.refl _ _)
    have hFe : ∀ i, i < L.length - N.toNat → F5 L i = F5 (takeL L (L.length - N.toNat)) i := fun i hi => by unfold takeL; rw [F5_mapN hi]; rfl
    have htl := take_len L (L.length - N.toNat)
    rw [htl]
    exact popR hl2 (by omega) hFe (ev_callW hE (H2 := [.cells [.gsl .full 1 0 (L.length - N.toNat), .bool true true] 74, .row L.length 5 (F5 L) cvE none, .row (L.length - N.toNat) 5 (F5 (takeL L (L.length - N.toNat))) cvE none]) 60 [0, 1, 15] (by decide) (by rfl) rfl (ayr_o3 A0 Rt c L 2 N x 74 (allE_cons (by first | rfl | (simp; omega)) (allE_cons (by first | rfl | (simp; omega)) (allE_cons rfl (allE_cons (by first | exact decide_eq_false (by omega) | exact decide_eq_false (by simp only [IntKind.wrap_i64]; omega)) (allE_cons (by first | exact decide_eq_false (by omega) | exact decide_eq_false (by simp only [IntKind.wrap_i64]; omega)) (allE_cons (by first | exact decide_eq_true (by omega) | exact decide_eq_true (by simp only [IntKind.wrap_i64]; omega)) (allE_cons (by first | exact decide_eq_true (by omega) | exact decide_eq_true (by simp only [IntKind.wrap_i64]; omega)) (allE_cons (by first | exact decide_eq_true (by omega) | exact decide_eq_true (by simp only [IntKind.wrap_i64]; omega)) (allE_cons (by first | exact decide_eq_true (by omega) | exact decide_eq_true (by simp only [IntKind.wrap_i64]; omega)) (allE_cons (by first | exact decide_eq_true (by omega) | exact decide_eq_true (by simp only [IntKind.wrap_i64]; omega)) (allE_cons hro1 (allE_cons (by first | exact decide_eq_true (by omega) | exact decide_eq_true (by simp only [IntKind.wrap_i64]; omega)) (allE_cons (by first | exact decide_eq_true (by omega) | exact decide_eq_true (by simp only [IntKind.wrap_i64]; omega)) (allE_cons (by first | exact decide_eq_true (by omega) | exact decide_eq_true (by simp only [IntKind.wrap_i64]; omega)) (allE_cons (decide_eq_true rfl) (allE_cons (by first | exact decide_eq_true (by omega) | exact decide_eq_true (by simp only [IntKind.wrap_i64]; omega)) (allE_cons hro2 (allE_cons (by first | exact decide_eq_true (by omega) | exact decide_eq_true (by simp only [IntKind.wrap_i64]; omega)) (allE_cons rfl (allE_cons hro3 (allE_cons (by first | exact decide_eq_true (by omega) | exact decide_eq_true (by simp only [IntKind.wrap_i64]; omega)) (allE_cons rfl (allE_cons (by first | exact decide_eq_true (by omega) | exact decide_eq_true (by simp only [IntKind.wrap_i64]; omega)) (allE_cons rfl (allE_cons hro4 allE_nil)))))))))))))))))))))))))) (wkA.refl _) ⟨⟨rfl, wkA_eq (by rw [hw]; congr 1; omega), wkA.refl _, trivial⟩, wkI.refl _, wkI.refl _, trivial⟩ hA' hB' hn' hO')
  · have h1 : 1 ≤ N ∧ N ≤ 16 ∧ N ≤ L.length := by omega
    have e1 : Int.toNat ((0 : Int) + IntKind.wrap IntKind.i64 ((L.length : Int) - N)) = L.length - N.toNat := by rw [IntKind.wrap_i64]; omega
    have e1' : Int.toNat (IntKind.wrap IntKind.i64 ((L.length : Int) - N)) = L.length - N.toNat := by rw [IntKind.wrap_i64]; omega
    have hnx : nextL 3 N x L = pushL L (L.getD (L.length - N.toNat) z5) := by unfold nextL; rw [if_neg (by rw [chg_t.2 (.inr (.inr (.inr (.inl ⟨rfl, by omega, by omega, by omega⟩))))]; decide), if_neg (by decide)]; rfl
    rw [hnx]
    refine newR hl2 (push_len L _).symm (fun i hi => ?_) (fun i hi => ?_) (ev_callW hE0 (H2 := _) 60 [0, 1, 25, 30] (by decide) (by rfl) rfl (ayr_d4 A0 Rt c L 3 N x 74 (allE_cons (by first | rfl | (simp; omega)) (allE_cons (by first | rfl | (simp; omega)) (allE_cons (by first | rfl | (simp; omega)) (allE_cons rfl (allE_cons (by first | exact decide_eq_false (by omega) | exact decide_eq_false (by simp only [IntKind.wrap_i64]; omega)) (allE_cons (by first | exact decide_eq_false (by omega) | exact decide_eq_false (by simp only [IntKind.wrap_i64]; omega)) (allE_cons (by first | exact decide_eq_false (by omega) | exact decide_eq_false (by simp only [IntKind.wrap_i64]; omega)) (allE_cons (by first | exact decide_eq_true (by omega) | exact decide_eq_true (by simp only [IntKind.wrap_i64]; omega)) (allE_cons (by first | exact decide_eq_true (by omega) | exact decide_eq_true (by simp only [IntKind.wrap_i64]; omega)) (allE_cons (by simp; omega) (allE_cons (by first | exact decide_eq_true (by omega) | exact decide_eq_true (by simp only [IntKind.wrap_i64]; omega)) (allE_cons (by first | exact decide_eq_true (by omega) | exact decide_eq_true (by simp only [IntKind.wrap_i64]; omega)) (allE_cons (by first | exact decide_eq_true (by omega) | exact decide_eq_true (by simp only [IntKind.wrap_i64]; omega)) (allE_cons (by first | exact decide_eq_true (by omega) | exact decide_eq_true (by simp only [IntKind.wrap_i64]; omega)) (allE_cons (by first | exact decide_eq_false (by omega) | exact decide_eq_false (by simp only [IntKind.wrap_i64]; omega)) (allE_cons (by first | exact decide_eq_false (by omega) | exact decide_eq_false (by simp only [IntKind.wrap_i64]; omega)) (allE_cons (by first | exact decide_eq_false (by omega) | exact decide_eq_false (by simp only [IntKind.wrap_i64]; omega)) (allE_cons (by first | exact decide_eq_true (by omega) | exact decide_eq_true (by simp only [IntKind.wrap_i64]; omega)) (allE_cons (by first | exact decide_eq_false (by omega) | exact decide_eq_false (by simp only [IntKind.wrap_i64]; omega)) (allE_cons (by first | exact decide_eq_true (by omega) | exact decide_eq_true (by simp only [IntKind.wrap_i64]; omega)) (allE_cons (by first | exact decide_eq_true (by omega) | exact decide_eq_true (by simp only [IntKind.wrap_i64]; omega)) (allE_cons (by first | exact decide_eq_true (by omega) | exact decide_eq_true (by simp only [IntKind.wrap_i64]; omega)) allE_nil))))))))))))))))))))))) (wkA.refl _) (wkM.refl _) hA' hB' hn' hO')
    · rw [e1]; rw [push_len] at hi
      exact push_row hi
    · rw [e1']; rw [push_len] at hi
      have hq := push_row (L := L) (y := (L.getD (L.length - N.toNat) z5)) (i := i) hi
      rw [Nat.zero_add] at hq
      exact hq
  · have h1 : 1 ≤ N ∧ N ≤ 16 ∧ N + 1 ≤ L.length := by omega
    have hnx : nextL 4 N x L = swapL L N.toNat := by unfold nextL; rw [if_neg (by rw [chg_t.2 (.inr (.inr (.inr (.inr (.inl ⟨rfl, by omega, by omega, by omega⟩)))))]; decide), if_neg (by decide)]; rfl
    rw [hnx]
    have e1 : Int.toNat ((0 : Int) + IntKind.wrap IntKind.i64 ((L.length : Int) - 1)) = L.length - 1 := by rw [IntKind.wrap_i64]; omega
    have e2 : Int.toNat ((0 : Int) + IntKind.wrap IntKind.i64 (IntKind.wrap IntKind.i64 ((L.length : Int) - 1) - N)) = L.length - 1 - N.toNat := by simp only [IntKind.wrap_i64]; omega
    have e1' : Int.toNat (IntKind.wrap IntKind.i64 ((L.length : Int) - 1)) = L.length - 1 := by rw [IntKind.wrap_i64]; omega
    have e2' : Int.toNat (IntKind.wrap IntKind.i64 (IntKind.wrap IntKind.i64 ((L.length : Int) - 1) - N)) = L.length - 1 - N.toNat := by simp only [IntKind.wrap_i64]; omega
    refine newR hl2 (swap_len L _).symm (fun i hi => ?_) (fun i hi => ?_) (ev_callW hE0 (H2 := _) 60 [0, 1, 14, 16] (by decide) (by rfl) rfl (ayr_s4 A0 Rt c L 4 N x 74 (allE_cons (by first | rfl | (simp; omega)) (allE_cons (by first | rfl | (simp; omega)) (allE_cons (by first | rfl | (simp; omega)) (allE_cons (by first | rfl | (simp; omega)) (allE_cons rfl (allE_cons (by first | exact decide_eq_false (by omega) | exact decide_eq_false (by simp only [IntKind.wrap_i64]; omega)) (allE_cons (by first | exact decide_eq_false (by omega) | exact decide_eq_false (by simp only [IntKind.wrap_i64]; omega)) (allE_cons (by first | exact decide_eq_false (by omega) | exact decide_eq_false (by simp only [IntKind.wrap_i64]; omega)) (allE_cons (by first | exact decide_eq_true (by omega) | exact decide_eq_true (by simp only [IntKind.wrap_i64]; omega)) (allE_cons (by first | exact decide_eq_true (by omega) | exact decide_eq_true (by simp only [IntKind.wrap_i64]; omega)) (allE_cons (by first | exact decide_eq_true (by omega) | exact decide_eq_true (by simp only [IntKind.wrap_i64]; omega)) (allE_cons (by first | exact decide_eq_true (by omega) | exact decide_eq_true (by simp only [IntKind.wrap_i64]; omega)) (allE_cons (by first | exact decide_eq_true (by omega) | exact decide_eq_true (by simp only [IntKind.wrap_i64]; omega)) (allE_cons (by first | exact decide_eq_true (by omega) | exact decide_eq_true (by simp only [IntKind.wrap_i64]; omega)) (allE_cons (by first | exact decide_eq_true (by omega) | exact decide_eq_true (by simp only [IntKind.wrap_i64]; omega)) (allE_cons (by first | exact decide_eq_true (by omega) | exact decide_eq_true (by simp only [IntKind.wrap_i64]; omega)) (allE_cons (by first | exact decide_eq_true (by omega) | exact decide_eq_true (by simp only [IntKind.wrap_i64]; omega)) (allE_cons (by first | exact decide_eq_true (by omega) | exact decide_eq_true (by simp only [IntKind.wrap_i64]; omega)) (allE_cons (by first | exact decide_eq_false (by omega) | exact decide_eq_false (by simp only [IntKind.wrap_i64]; omega)) (allE_cons (by first | exact decide_eq_false (by omega) | exact decide_eq_false (by simp only [IntKind.wrap_i64]; omega)) (allE_cons (by first | exact decide_eq_false (by omega) | exact decide_eq_false (by simp only [IntKind.wrap_i64]; omega)) (allE_cons (by first | exact decide_eq_true (by omega) | exact decide_eq_true (by simp only [IntKind.wrap_i64]; omega)) (allE_cons (by first | exact decide_eq_true (by omega) | exact decide_eq_true (by simp only [IntKind.wrap_i64]; omega)) (allE_cons (by first | exact decide_eq_true (by omega) | exact decide_eq_true (by simp only [IntKind.wrap_i64]; omega)) (allE_cons (by first | exact decide_eq_true (by omega) | exact decide_eq_true (by simp only [IntKind.wrap_i64]; omega)) (allE_cons (by first | exact decide_eq_true (by omega) | exact decide_eq_true (by simp only [IntKind.wrap_i64]; omega)) (allE_cons (by first | exact decide_eq_true (by omega) | exact decide_eq_true (by simp only [IntKind.wrap_i64]; omega)) (allE_cons (by first | exact decide_eq_true (by omega) | exact decide_eq_true (by simp only [IntKind.wrap_i64]; omega)) allE_nil))))))))))))))))))))))))))))) (wkA.refl _) (wkM.refl _) hA' hB' hn' hO')
    · rw [swap_len] at hi
      rw [e1, e2, swap_row]; unfold swapL; rw [F5_mapN hi]
    · rw [swap_len] at hi
      rw [e1, e2]; refine (swap_rowG (L := L) (p := L.length - 1) (q := L.length - 1 - N.toNat) (fun j => rfl) ?_ ?_).trans ?_
      · show List.take 5 (F5 L (Int.toNat (IntKind.wrap IntKind.i64 (IntKind.wrap IntKind.i64 ((L.length : Int) - 1) - N)))) = _; rw [e2']; rfl
      · show List.take 5 (F5 L (Int.toNat (IntKind.wrap IntKind.i64 ((L.length : Int) - 1)))) = _; rw [e1']; rfl
      · unfold swapL; rw [F5_mapN hi]
  · have h1 : 0 ≤ N := by omega
    have hnx : nextL 5 N x L = raiseTo L N.toNat L.length x.l := by unfold nextL; rw [if_neg (by rw [chg_t.2 (.inr (.inr (.inr (.inr (.inr ⟨rfl, by omega⟩)))))]; decide), if_neg (by decide)]; rfl
    rw [hnx]
    exact newR hl2 (raise_len L _ _ _).symm (fun i hi => rfl) (fun i hi => rfl) (ev_callW hE0 (H2 := _) 60 [0, 1, 20, 21] (by decide) (by rfl) rfl (ayr_r3 A0 Rt c L 5 N x 74 (allE_cons (by first | rfl | (simp; omega)) (allE_cons (by first | rfl | (simp; omega)) (allE_cons (by first | rfl | (simp; omega)) (allE_cons (by first | rfl | (simp; omega)) (allE_cons (by first | rfl | (simp; omega)) (allE_cons rfl (allE_cons (by first | exact decide_eq_false (by omega) | exact decide_eq_false (by simp only [IntKind.wrap_i64]; omega)) (allE_cons (by first | exact decide_eq_true (by omega) | exact decide_eq_true (by simp only [IntKind.wrap_i64]; omega)) (allE_cons (rowIs_self L) (allE_cons (decide_eq_true rfl) (allE_cons (by first | exact decide_eq_true (by omega) | exact decide_eq_true (by simp only [IntKind.wrap_i64]; omega)) (allE_cons (by first | exact decide_eq_false (by omega) | exact decide_eq_false (by simp only [IntKind.wrap_i64]; omega)) (allE_cons (by first | exact decide_eq_true (by omega) | exact decide_eq_true (by simp only [IntKind.wrap_i64]; omega)) (allE_cons (decide_eq_true rfl) (allE_cons (by first | exact decide_eq_true (by omega) | exact decide_eq_true (by simp only [IntKind.wrap_i64]; omega)) (allE_cons (by rw [bne_self_eq_false]) (allE_cons rfl (allE_cons (by first | exact decide_eq_false (by omega) | exact decide_eq_false (by simp only [IntKind.wrap_i64]; omega)) (allE_cons (by first | exact decide_eq_true (by omega) | exact decide_eq_true (by simp only [IntKind.wrap_i64]; omega)) (allE_cons (rowIs_self L) (allE_cons (decide_eq_true rfl) (allE_cons (by first | exact decide_eq_true (by omega) | exact decide_eq_true (by simp only [IntKind.wrap_i64]; omega)) (allE_cons (by first | exact decide_eq_true (by omega) | exact decide_eq_true (by simp only [IntKind.wrap_i64]; omega)) (allE_cons (decide_eq_true rfl) (allE_cons (by first | exact decide_eq_true (by omega) | exact decide_eq_true (by simp only [IntKind.wrap_i64]; omega)) allE_nil)))))))))))))))))))))))))) (wkA.refl _) (wkM.refl _) hA' hB' hn' hO')
  · exfalso; omega
  · exfalso; omega
end Go.Proofs.Ytcfomhnfhalmaaa
end

section
set_option linter.unusedVariables false
set_option linter.unusedSimpArgs false
set_option maxRecDepth 100000
namespace Go.Proofs.Ytcfomhnfhalmaaa
open Go.RowKit

theorem is_0 (R : Rws) (L : List V5) (many : Int) (t0 : TypeId) : ∀ r, Is (evT (EG R false [] []) 60 (.code (sL (Try.f30.body.getD .skip))) ⟨pat [(0, .ptr 0 0), (1, .gsl .any 1 0 L.length), (2, .int .i64 false many)] r 0 Try.f30.ntmps, ⟨[.cells [.gsl .any 2 0 L.length, .bool true true] t0, .row L.length 5 (F5 L) cvE none, .row L.length 5 (F5 L) cvE none], [], (newW 3)⟩⟩ (selK [0, 1, 2, 3, 4, 5] .normal [(0, .ptr 0 0), (4, .ptr 3 0), (5, .ptr 4 0), (6, .ptr 5 0)] Try.f30.ntmps [AIt.cells [.gsl .any 2 0 (List.length L), .bool true true] t0, AIt.row (List.length L) 5 (F5 L) cvE none, AIt.row (List.length L) 5 (F5 L) cvE none, AIt.cells [.gsl .any 1 0 (List.length L)] 27, AIt.cells [.int .i64 false many] 3, AIt.cells [.bool true false] 4])) := fun r => ev_selQ (by kernel_rfl)
theorem is_1 (R : Rws) (L : List V5) (many : Int) (t0 : TypeId) : ∀ r, Is (evT (EG R false [] []) 60 (.code (sL (sR (Try.f30.body.getD .skip)))) ⟨pat [(0, .ptr 0 0), (4, .ptr 3 0), (5, .ptr 4 0), (6, .ptr 5 0)] r 0 Try.f30.ntmps, ⟨[.cells [.gsl .any 2 0 L.length, .bool true true] t0, .row L.length 5 (F5 L) cvE none, .row L.length 5 (F5 L) cvE none, .cells [.gsl .any 1 0 L.length] 27, .cells [.int .i64 false many] 3, .cells [.bool true false] 4], [], (newW 3)⟩⟩ (selK [0, 1, 2, 3, 4, 5, 6] .normal [(0, .ptr 0 0), (4, .ptr 3 0), (5, .ptr 4 0), (6, .ptr 5 0), (7, .func (.func 75) [.ptr 6 0])] Try.f30.ntmps [AIt.cells [.gsl .any 2 0 (List.length L), .bool true true] t0, AIt.row (List.length L) 5 (F5 L) cvE none, AIt.row (List.length L) 5 (F5 L) cvE none, AIt.cells [.gsl .any 1 0 (List.length L)] 27, AIt.cells [.int .i64 false many] 3, AIt.cells [.bool true false] 4, AIt.cells [.gsl .any 2 0 (List.length L)] 27])) := fun r => ev_selQ (by kernel_rfl)
theorem is_2 (R : Rws) (L : List V5) (many : Int) (t0 : TypeId) (h : AllE [((↑(List.length L) : Int) != (↑(List.length L) : Int), false)]) : ∀ r, Is (evT (EG R false [] []) 60 (.code (sL (sR (sR (Try.f30.body.getD .skip))))) ⟨pat [(0, .ptr 0 0), (4, .ptr 3 0), (5, .ptr 4 0), (6, .ptr 5 0), (7, .func (.func 75) [.ptr 6 0])] r 0 Try.f30.ntmps, ⟨[.cells [.gsl .any 2 0 L.length, .bool true true] t0, .row L.length 5 (F5 L) cvE none, .row L.length 5 (F5 L) cvE none, .cells [.gsl .any 1 0 L.length] 27, .cells [.int .i64 false many] 3, .cells [.bool true false] 4, .cells [.gsl .any 2 0 L.length] 27], [false], (newW 3)⟩⟩ (selK [0, 1, 2, 3, 4, 5, 6] .normal [(4, .ptr 3 0), (5, .ptr 4 0), (6, .ptr 5 0), (7, .func (.func 75) [.ptr 6 0])] Try.f30.ntmps [AIt.cells [.gsl .any 2 0 (List.length L), .bool true true] t0, AIt.row (List.length L) 5 (F5 L) cvE none, AIt.row (List.length L) 5 (F5 L) cvE none, AIt.cells [.gsl .any 1 0 (List.length L)] 27, AIt.cells [.int .i64 false many] 3, AIt.cells [.bool true false] 4, AIt.cells [.gsl .any 2 0 (List.length L)] 27])) := fun r => ev_selP (by kernel_rfl) h
theorem is_3 (R : Rws) (L : List V5) (many : Int) (t0 : TypeId) : ∀ r, Is (evT (EG R false [] []) 60 (.code (sL (sR (sR (sR (Try.f30.body.getD .skip)))))) ⟨pat [(4, .ptr 3 0), (5, .ptr 4 0), (6, .ptr 5 0), (7, .func (.func 75) [.ptr 6 0])] r 0 Try.f30.ntmps, ⟨[.cells [.gsl .any 2 0 L.length, .bool true true] t0, .row L.length 5 (F5 L) cvE none, .row L.length 5 (F5 L) cvE none, .cells [.gsl .any 1 0 L.length] 27, .cells [.int .i64 false many] 3, .cells [.bool true false] 4, .cells [.gsl .any 2 0 L.length] 27], [], (newW 3)⟩⟩ (selK [0, 1, 2, 3, 4, 5, 6, 7] .normal [(4, .ptr 3 0), (5, .ptr 4 0), (6, .ptr 5 0), (7, .func (.func 75) [.ptr 6 0]), (8, .ptr 7 0)] Try.f30.ntmps [AIt.cells [.gsl .any 2 0 (List.length L), .bool true true] t0, AIt.row (List.length L) 5 (F5 L) cvE none, AIt.row (List.length L) 5 (F5 L) cvE none, AIt.cells [.gsl .any 1 0 (List.length L)] 27, AIt.cells [.int .i64 false many] 3, AIt.cells [.bool true false] 4, AIt.cells [.gsl .any 2 0 (List.length L)] 27, AIt.cells [.int .i64 true 0] 3])) := fun r => ev_selQ (by kernel_rfl)
theorem is_4 (R : Rws) (L : List V5) (many : Int) (t0 : TypeId) : ∀ r, Is (evT (EG R false [] []) 60 (.code (sL (sL (sR (sR (sR (sR (Try.f30.body.getD .skip)))))))) ⟨pat [(4, .ptr 3 0), (5, .ptr 4 0), (6, .ptr 5 0), (7, .func (.func 75) [.ptr 6 0]), (8, .ptr 7 0)] r 0 Try.f30.ntmps, ⟨[.cells [.gsl .any 2 0 L.length, .bool true true] t0, .row L.length 5 (F5 L) cvE none, .row L.length 5 (F5 L) cvE none, .cells [.gsl .any 1 0 L.length] 27, .cells [.int .i64 false many] 3, .cells [.bool true false] 4, .cells [.gsl .any 2 0 L.length] 27, .cells [.int .i64 true 0] 3], [], (newW 3)⟩⟩ (selK [0, 1, 2, 3, 4, 5, 6, 7] .normal [(4, .ptr 3 0), (5, .ptr 4 0), (6, .ptr 5 0), (8, .ptr 7 0), (22, .func (.func 75) [.ptr 6 0])] Try.f30.ntmps [AIt.cells [.gsl .any 2 0 (List.length L), .bool true true] t0, AIt.row (List.length L) 5 (F5 L) cvE none, AIt.row (List.length L) 5 (F5 L) cvE none, AIt.cells [.gsl .any 1 0 (List.length L)] 27, AIt.cells [.int .i64 false many] 3, AIt.cells [.bool true false] 4, AIt.cells [.gsl .any 2 0 (List.length L)] 27, AIt.cells [.int .i64 true 0] 3])) := fun r => ev_selQ (by kernel_rfl)
theorem is_6 (R : Rws) (L : List V5) (many : Int) (t0 : TypeId) (k : Int) : ∀ r, Is (evT (EG R false [] []) 60 (.code (sR (sR (sR (sR (sR (Try.f30.body.getD .skip))))))) ⟨pat [(4, .ptr 3 0), (6, .ptr 5 0), (5, .ptr 4 0), (8, .ptr 7 0)] r 0 Try.f30.ntmps, ⟨[.cells [.gsl .any 2 0 L.length, .bool true true] t0, .row L.length 5 (F5 L) cvE none, .row L.length 5 (F5 L) cvE none, .cells [.gsl .any 1 0 L.length] 27, .cells [.int .i64 false many] 3, .cells [.bool true false] 4, .cells [.gsl .any 2 0 L.length] 27, .cells [.int .i64 false (k)] 3], [], (newW 3)⟩⟩ (selK [0, 1, 2, 3, 4, 5, 6, 7] .ret [(6, .ptr 5 0)] Try.f30.ntmps [AIt.cells [.gsl .any 2 0 (List.length L), .bool true true] t0, AIt.row (List.length L) 5 (F5 L) cvE none, AIt.row (List.length L) 5 (F5 L) cvE none, AIt.cells [.gsl .any 1 0 (List.length L)] 27, AIt.cells [.int .i64 false many] 3, AIt.cells [.bool false (k == bif false then if (bif true then if many > 1 then many else 1 else if many < 1 then many else 1) > (↑(List.length L) : Int) then bif true then if many > 1 then many else 1 else if many < 1 then many else 1 else (↑(List.length L) : Int) else if (bif true then if many > 1 then many else 1 else if many < 1 then many else 1) < (↑(List.length L) : Int) then bif true then if many > 1 then many else 1 else if many < 1 then many else 1 else (↑(List.length L) : Int))] 4, AIt.cells [.gsl .any 2 0 (List.length L)] 27, AIt.cells [.int .i64 false k] 3])) := fun r => ev_selQ (by kernel_rfl)
theorem is_rt (R : Rws) (L : List V5) (many : Int) (t0 : TypeId) (k : Nat) (x : V5) (h : AllE [((↑k : Int) != (↑k : Int), false), (decide ((↑k : Int) ≥ (↑(List.length L) : Int)), false), (decide (0 ≤ IntKind.wrap IntKind.i64 (IntKind.wrap IntKind.i64 ((↑(List.length L) : Int) - 1) - (↑k : Int)) ∧ IntKind.wrap IntKind.i64 (IntKind.wrap IntKind.i64 ((↑(List.length L) : Int) - 1) - (↑k : Int)) < (↑(List.length L) : Int)), true), (decide (0 ≤ (↑0 : Int) + IntKind.wrap IntKind.i64 (IntKind.wrap IntKind.i64 ((↑(List.length L) : Int) - 1) - (↑k : Int)) ∧ (↑0 : Int) + IntKind.wrap IntKind.i64 (IntKind.wrap IntKind.i64 ((↑(List.length L) : Int) - 1) - (↑k : Int)) < (↑(List.length L) : Int)), true), (true != (V5.a x == V5.a (List.getD L (Int.toNat ((↑0 : Int) + IntKind.wrap IntKind.i64 (IntKind.wrap IntKind.i64 ((↑(List.length L) : Int) - 1) - (↑k : Int)))) z5) && (V5.b x == V5.b (List.getD L (Int.toNat ((↑0 : Int) + IntKind.wrap IntKind.i64 (IntKind.wrap IntKind.i64 ((↑(List.length L) : Int) - 1) - (↑k : Int)))) z5) && (V5.c x == V5.c (List.getD L (Int.toNat ((↑0 : Int) + IntKind.wrap IntKind.i64 (IntKind.wrap IntKind.i64 ((↑(List.length L) : Int) - 1) - (↑k : Int)))) z5) && (V5.d x == V5.d (List.getD L (Int.toNat ((↑0 : Int) + IntKind.wrap IntKind.i64 (IntKind.wrap IntKind.i64 ((↑(List.length L) : Int) - 1) - (↑k : Int)))) z5) && (V5.l x == V5.l (List.getD L (Int.toNat ((↑0 : Int) + IntKind.wrap IntKind.i64 (IntKind.wrap IntKind.i64 ((↑(List.length L) : Int) - 1) - (↑k : Int)))) z5) && true))))), false), (decide (IntKind.wrap IntKind.i64 ((↑k : Int) + 1) ≥ many), true)]) (r : Nat → Value) : Is (evR (EG R false [] []) 60 8 (rgA (sR (sL (sR (sR (sR (sR (Try.f30.body.getD .skip)))))))) (rgB (sR (sL (sR (sR (sR (sR (Try.f30.body.getD .skip)))))))) ⟨setps (pat [(4, .ptr 3 0), (5, .ptr 4 0), (6, .ptr 5 0), (8, .ptr 7 0), (22, .func (.func 75) [.ptr 6 0])] r 0 Try.f30.ntmps) (rgP (sR (sL (sR (sR (sR (sR (Try.f30.body.getD .skip)))))))).toList [.int .i64 true (k : Int), .agg (v5 x)], ⟨[.cells [.gsl .any 2 0 L.length, .bool true true] t0, .row L.length 5 (F5 L) cvE none, .row L.length 5 (F5 L) cvE none, .cells [.gsl .any 1 0 L.length] 27, .cells [.int .i64 false many] 3, .cells [.bool true false] 4, .cells [.gsl .any 2 0 L.length] 27, .cells [.int .i64 false ((k : Int))] 3], [false, false, false, true], fun l => newW 3 l && !memN l [2, 6]⟩⟩ (rndK true (rgI (sR (sL (sR (sR (sR (sR (Try.f30.body.getD .skip)))))))) 8 [.cells [.gsl .any 2 0 L.length, .bool true true] t0, .row L.length 5 (F5 L) cvE none, .row L.length 5 (F5 L) cvE none, .cells [.gsl .any 1 0 L.length] 27, .cells [.int .i64 false many] 3, .cells [.bool true false] 4, .cells [.gsl .any 2 0 L.length] 27, .cells [.int .i64 false ((IntKind.wrap IntKind.i64 ((k : Int) + 1)))] 3])) := ev_eq [((↑k : Int) != (↑k : Int), false), (decide ((↑k : Int) ≥ (↑(List.length L) : Int)), false), (decide (0 ≤ IntKind.wrap IntKind.i64 (IntKind.wrap IntKind.i64 ((↑(List.length L) : Int) - 1) - (↑k : Int)) ∧ IntKind.wrap IntKind.i64 (IntKind.wrap IntKind.i64 ((↑(List.length L) : Int) - 1) - (↑k : Int)) < (↑(List.length L) : Int)), true), (decide (0 ≤ (↑0 : Int) + IntKind.wrap IntKind.i64 (IntKind.wrap IntKind.i64 ((↑(List.length L) : Int) - 1) - (↑k : Int)) ∧ (↑0 : Int) + IntKind.wrap IntKind.i64 (IntKind.wrap IntKind.i64 ((↑(List.length L) : Int) - 1) - (↑k : Int)) < (↑(List.length L) : Int)), true), (true != (V5.a x == V5.a (List.getD L (Int.toNat ((↑0 : Int) + IntKind.wrap IntKind.i64 (IntKind.wrap IntKind.i64 ((↑(List.length L) : Int) - 1) - (↑k : Int)))) z5) && (V5.b x == V5.b (List.getD L (Int.toNat ((↑0 : Int) + IntKind.wrap IntKind.i64 (IntKind.wrap IntKind.i64 ((↑(List.length L) : Int) - 1) - (↑k : Int)))) z5) && (V5.c x == V5.c (List.getD L (Int.toNat ((↑0 : Int) + IntKind.wrap IntKind.i64 (IntKind.wrap IntKind.i64 ((↑(List.length L) : Int) - 1) - (↑k : Int)))) z5) && (V5.d x == V5.d (List.getD L (Int.toNat ((↑0 : Int) + IntKind.wrap IntKind.i64 (IntKind.wrap IntKind.i64 ((↑(List.length L) : Int) - 1) - (↑k : Int)))) z5) && (V5.l x == V5.l (List.getD L (Int.toNat ((↑0 : Int) + IntKind.wrap IntKind.i64 (IntKind.wrap IntKind.i64 ((↑(List.length L) : Int) - 1) - (↑k : Int)))) z5) && true))))), false), (decide (IntKind.wrap IntKind.i64 ((↑k : Int) + 1) ≥ many), true)] (rndR true [.cells [.gsl .any 2 0 L.length, .bool true true] t0, .row L.length 5 (F5 L) cvE none, .row L.length 5 (F5 L) cvE none, .cells [.gsl .any 1 0 L.length] 27, .cells [.int .i64 false many] 3, .cells [.bool true false] 4, .cells [.gsl .any 2 0 L.length] 27, .cells [.int .i64 false ((IntKind.wrap IntKind.i64 ((k : Int) + 1)))] 3]) (by kernel_rfl) h
theorem is_rf (R : Rws) (L : List V5) (many : Int) (t0 : TypeId) (k : Nat) (x : V5) (h : AllE [((↑k : Int) != (↑k : Int), false), (decide ((↑k : Int) ≥ (↑(List.length L) : Int)), false), (decide (0 ≤ IntKind.wrap IntKind.i64 (IntKind.wrap IntKind.i64 ((↑(List.length L) : Int) - 1) - (↑k : Int)) ∧ IntKind.wrap IntKind.i64 (IntKind.wrap IntKind.i64 ((↑(List.length L) : Int) - 1) - (↑k : Int)) < (↑(List.length L) : Int)), true), (decide (0 ≤ (↑0 : Int) + IntKind.wrap IntKind.i64 (IntKind.wrap IntKind.i64 ((↑(List.length L) : Int) - 1) - (↑k : Int)) ∧ (↑0 : Int) + IntKind.wrap IntKind.i64 (IntKind.wrap IntKind.i64 ((↑(List.length L) : Int) - 1) - (↑k : Int)) < (↑(List.length L) : Int)), true), (true != (V5.a x == V5.a (List.getD L (Int.toNat ((↑0 : Int) + IntKind.wrap IntKind.i64 (IntKind.wrap IntKind.i64 ((↑(List.length L) : Int) - 1) - (↑k : Int)))) z5) && (V5.b x == V5.b (List.getD L (Int.toNat ((↑0 : Int) + IntKind.wrap IntKind.i64 (IntKind.wrap IntKind.i64 ((↑(List.length L) : Int) - 1) - (↑k : Int)))) z5) && (V5.c x == V5.c (List.getD L (Int.toNat ((↑0 : Int) + IntKind.wrap IntKind.i64 (IntKind.wrap IntKind.i64 ((↑(List.length L) : Int) - 1) - (↑k : Int)))) z5) && (V5.d x == V5.d (List.getD L (Int.toNat ((↑0 : Int) + IntKind.wrap IntKind.i64 (IntKind.wrap IntKind.i64 ((↑(List.length L) : Int) - 1) - (↑k : Int)))) z5) && (V5.l x == V5.l (List.getD L (Int.toNat ((↑0 : Int) + IntKind.wrap IntKind.i64 (IntKind.wrap IntKind.i64 ((↑(List.length L) : Int) - 1) - (↑k : Int)))) z5) && true))))), false), (decide (IntKind.wrap IntKind.i64 ((↑k : Int) + 1) ≥ many), false)]) (r : Nat → Value) : Is (evR (EG R false [] []) 60 8 (rgA (sR (sL (sR (sR (sR (sR (Try.f30.body.getD .skip)))))))) (rgB (sR (sL (sR (sR (sR (sR (Try.f30.body.getD .skip)))))))) ⟨setps (pat [(4, .ptr 3 0), (5, .ptr 4 0), (6, .ptr 5 0), (8, .ptr 7 0), (22, .func (.func 75) [.ptr 6 0])] r 0 Try.f30.ntmps) (rgP (sR (sL (sR (sR (sR (sR (Try.f30.body.getD .skip)))))))).toList [.int .i64 true (k : Int), .agg (v5 x)], ⟨[.cells [.gsl .any 2 0 L.length, .bool true true] t0, .row L.length 5 (F5 L) cvE none, .row L.length 5 (F5 L) cvE none, .cells [.gsl .any 1 0 L.length] 27, .cells [.int .i64 false many] 3, .cells [.bool true false] 4, .cells [.gsl .any 2 0 L.length] 27, .cells [.int .i64 false ((k : Int))] 3], [false, false, false, false], fun l => newW 3 l && !memN l [2, 6]⟩⟩ (rndK false (rgI (sR (sL (sR (sR (sR (sR (Try.f30.body.getD .skip)))))))) 8 [.cells [.gsl .any 2 0 L.length, .bool true true] t0, .row L.length 5 (F5 L) cvE none, .row L.length 5 (F5 L) cvE none, .cells [.gsl .any 1 0 L.length] 27, .cells [.int .i64 false many] 3, .cells [.bool true false] 4, .cells [.gsl .any 2 0 L.length] 27, .cells [.int .i64 false ((IntKind.wrap IntKind.i64 ((k : Int) + 1)))] 3])) := ev_eq [((↑k : Int) != (↑k : Int), false), (decide ((↑k : Int) ≥ (↑(List.length L) : Int)), false), (decide (0 ≤ IntKind.wrap IntKind.i64 (IntKind.wrap IntKind.i64 ((↑(List.length L) : Int) - 1) - (↑k : Int)) ∧ IntKind.wrap IntKind.i64 (IntKind.wrap IntKind.i64 ((↑(List.length L) : Int) - 1) - (↑k : Int)) < (↑(List.length L) : Int)), true), (decide (0 ≤ (↑0 : Int) + IntKind.wrap IntKind.i64 (IntKind.wrap IntKind.i64 ((↑(List.length L) : Int) - 1) - (↑k : Int)) ∧ (↑0 : Int) + IntKind.wrap IntKind.i64 (IntKind.wrap IntKind.i64 ((↑(List.length L) : Int) - 1) - (↑k : Int)) < (↑(List.length L) : Int)), true), (true != (V5.a x == V5.a (List.getD L (Int.toNat ((↑0 : Int) + IntKind.wrap IntKind.i64 (IntKind.wrap IntKind.i64 ((↑(List.length L) : Int) - 1) - (↑k : Int)))) z5) && (V5.b x == V5.b (List.getD L (Int.toNat ((↑0 : Int) + IntKind.wrap IntKind.i64 (IntKind.wrap IntKind.i64 ((↑(List.length L) : Int) - 1) - (↑k : Int)))) z5) && (V5.c x == V5.c (List.getD L (Int.toNat ((↑0 : Int) + IntKind.wrap IntKind.i64 (IntKind.wrap IntKind.i64 ((↑(List.length L) : Int) - 1) - (↑k : Int)))) z5) && (V5.d x == V5.d (List.getD L (Int.toNat ((↑0 : Int) + IntKind.wrap IntKind.i64 (IntKind.wrap IntKind.i64 ((↑(List.length L) : Int) - 1) - (↑k : Int)))) z5) && (V5.l x == V5.l (List.getD L (Int.toNat ((↑0 : Int) + IntKind.wrap IntKind.i64 (IntKind.wrap IntKind.i64 ((↑(List.length L) : Int) - 1) - (↑k : Int)))) z5) && true))))), false), (decide (IntKind.wrap IntKind.i64 ((↑k : Int) + 1) ≥ many), false)] (rndR false [.cells [.gsl .any 2 0 L.length, .bool true true] t0, .row L.length 5 (F5 L) cvE none, .row L.length 5 (F5 L) cvE none, .cells [.gsl .any 1 0 L.length] 27, .cells [.int .i64 false many] 3, .cells [.bool true false] 4, .cells [.gsl .any 2 0 L.length] 27, .cells [.int .i64 false ((IntKind.wrap IntKind.i64 ((k : Int) + 1)))] 3]) (by kernel_rfl) h
noncomputable def isS (L : List V5) : SmP
  | [.ptr 0 0, .gsl k 1 0 m, .int .i64 l many], [.cells [.gsl k' 2 0 n, .bool l2 true] t0, .row N 5 F e none, .row N' 5 F' e' none] => some (.bool false true, [rowIs F m L, rowIs F' n L, decide (m ≤ N), decide (n ≤ N'), decide (n ≤ 1000), decide (e = cvE), decide (e' = cvE)])
  | _, _ => none
theorem rev_x {L : List V5} {k : Nat} {x : V5} (h : L.reverse[k]? = some x) : k < L.length ∧ L.getD (L.length - 1 - k) z5 = x := by
  have hk := rev_get h
  refine ⟨hk, ?_⟩
  rw [List.getElem?_reverse hk] at h
  rw [List.getD_eq_getElem?_getD, h]; rfl
set_option maxHeartbeats 2000000 in
theorem isS_ok {R : Rws} (hR : RwOK R) (hRp : ∀ j r, R j = some r → 0 < r.n → 0 < (r.V 0).length) (L : List V5) : GoodP Try.prog R 30 (isS L) := by
  refine ⟨enters_of Try.func30 (by kernel_rfl) rfl, fun args H v cs h hcs => ?_⟩
  unfold isS at h
  split at h
  case h_2 => cases h
  rename_i k m l many k' n l2 t0 N F e N' F' e'
  cases h
  simp only [List.mem_cons, List.not_mem_nil, or_false, forall_eq_or_imp, forall_eq] at hcs
  obtain ⟨c1, c2, c3, c4, c5, c6, c7⟩ := hcs
  have c3 := of_decide_eq_true c3
  have c4 := of_decide_eq_true c4
  have c5 := of_decide_eq_true c5
  have c6 := of_decide_eq_true c6
  have c7 := of_decide_eq_true c7
  obtain ⟨d1, d2⟩ := rowIs_spec c1
  obtain ⟨d3, d4⟩ := rowIs_spec c2
  subst d1 c6 c7
  subst d3
  refine ⟨.bool true, rfl, fun Hr w Args hA hB hn hO => ?_⟩
  have hE := EG_ok hR false good_nil goodM_nil
  refine ev_enterH (E := EG R false [] []) (fn := Try.f30) (c := (Try.f30.body.getD .skip)) Try.func30 (by kernel_rfl) (args := [.ptr 0 0, .gsl k 1 0 L.length, .int .i64 l many]) (show 3 ≤ Try.f30.ntmps by decide) hA hB hn hO (ds := []) (wr := newW 3) fun a0 hP0' hB0' => ?_
  have hl3 : Hr.length = 3 := hB.1
  have hW : wkM [.cells [.gsl k' 2 0 L.length, .bool l2 true] t0, .row N 5 F cvE none, .row N' 5 F' cvE none] [.cells [.gsl .any 2 0 L.length, .bool true true] t0, .row L.length 5 (F5 L) cvE none, .row L.length 5 (F5 L) cvE none] := ⟨⟨rfl, wkA_any, wkA_bool, trivial⟩, ⟨c3, rfl, rfl, rfl, d2⟩, ⟨c4, rfl, rfl, rfl, d4⟩, trivial⟩
  have hP0 := hP0'.wk (live' := [(0, .ptr 0 0), (1, .gsl .any 1 0 L.length), (2, .int .i64 false many)]) (ds' := []) (wr' := newW 3) ⟨rfl, wkA.refl _, rfl, wkA_any, rfl, wkA_int, trivial⟩ hW
  have hB0 := hB0'.wk hW
  refine wp_parts (by kernel_rfl) (ev_codeWS hE 60 [0, 1, 2, 3, 4, 5] .normal (by decide) (by rfl) (is_0 R L many t0) (wkV.refl _) (wkM.refl _) hP0 hB0 fun a1 Hr1 w1 hP1 hB1 hT1 => ?_)
  refine wp_parts (by kernel_rfl) (ev_codeWS hE 60 [0, 1, 2, 3, 4, 5, 6] .normal (by decide) (by rfl) (is_1 R L many t0) (wkV.refl _) (wkM.refl _) hP1 hB1 fun a2 Hr2 w2 hP2 hB2 hT2 => ?_)
  refine wp_parts (by kernel_rfl) (ev_codeWS hE 60 [0, 1, 2, 3, 4, 5, 6] .normal (by decide) (by rfl) (is_2 R L many t0 (allE_cons (by simp) allE_nil)) (wkV.refl _) (wkM.refl _) hP2 hB2 fun a3 Hr3 w3 hP3 hB3 hT3 => ?_)
  refine wp_parts (by kernel_rfl) (ev_codeWS hE 60 [0, 1, 2, 3, 4, 5, 6, 7] .normal (by decide) (by rfl) (is_3 R L many t0) (wkV.refl _) (wkM.refl _) hP3 hB3 fun a4 Hr4 w4 hP4 hB4 hT4 => ?_)
  refine wp_parts (by kernel_rfl) (wp_parts (by kernel_rfl) (ev_codeWS hE 60 [0, 1, 2, 3, 4, 5, 6, 7] .normal (by decide) (by rfl) (is_4 R L many t0) (live'' := [(4, .ptr 3 0), (5, .ptr 4 0), (6, .ptr 5 0), (8, .ptr 7 0), (22, .func (.func 75) [.ptr 6 0])]) ⟨rfl, wkA.refl _, rfl, wkA.refl _, rfl, wkA.refl _, rfl, wkA.refl _, rfl, wkA.refl _, trivial⟩ (H'' := [.cells [.gsl .any 2 0 L.length, .bool true true] t0, .row L.length 5 (F5 L) cvE none, .row L.length 5 (F5 L) cvE none, .cells [.gsl .any 1 0 L.length] 27, .cells [.int .i64 false many] 3, .cells [.bool true false] 4, .cells [.gsl .any 2 0 L.length] 27, .cells [.int .i64 false (((0 : Nat) : Int))] 3]) ⟨wkI.refl _, wkI.refl _, wkI.refl _, wkI.refl _, wkI.refl _, wkI.refl _, wkI.refl _, ⟨rfl, wkA_int, trivial⟩, trivial⟩ hP4 hB4 fun a5 Hr5 w5 hP5 hB5 hT5 => ?_))
  have hP5 : PatSt R ([].map markD) [(4, .ptr 3 0), (5, .ptr 4 0), (6, .ptr 5 0), (8, .ptr 7 0), (22, .func (.func 75) [.ptr 6 0])] Try.f30.ntmps ⟨[.cells [.gsl .any 2 0 L.length, .bool true true] t0, .row L.length 5 (F5 L) cvE none, .row L.length 5 (F5 L) cvE none, .cells [.gsl .any 1 0 L.length] 27, .cells [.int .i64 false many] 3, .cells [.bool true false] 4, .cells [.gsl .any 2 0 L.length] 27, .cells [.int .i64 false (((0 : Nat) : Int))] 3], [], newW 3⟩ a5 Hr5 := hP5
  have hseq : ∀ lb, RelL R (nums Hr5) [.ptr 6 0] lb → Seq Try.prog 75 lb.toArray tpEnc L.reverse (Sfz [2, 6] Hr5 w5) w5 := fun lb hlb => by
    obtain ⟨rs, vs, _, _, hBl, hnd⟩ := hP5
    cases hlb with | cons h1 h2 =>
    cases h2
    obtain ⟨q, hq, rfl⟩ := rel_ptr h1
    obtain ⟨p6, hp6, rfl⟩ := nums_at hq
    have hph6 := hBl.cph (l := 6) rfl hp6
    have r6 := hBl.2 6 _ p6 rfl hp6
    obtain ⟨o1, o2⟩ := hB5.own.1 6 _ p6 rfl hp6 hph6
    have s6 := sfz_of (fz := [2, 6]) hBl hnd hB5.own.1 rfl (l := 6) rfl hp6 hph6 rfl
    obtain ⟨p2, hp2⟩ : ∃ p2, Hr5[2]? = some p2 := ⟨_, List.getElem?_eq_getElem (by rw [hBl.1]; show 2 < 8; decide)⟩
    have r2 := hBl.2 2 _ p2 rfl hp2
    have hrow : ∀ ρ, RelI noRows ρ (.row L.length 5 (F5 L) cvE none) p2 := fun ρ => by
      cases hLl : L.length with
      | zero =>
        rw [hLl] at r2
        cases r2 with
        | row x1 x2 x3 x4 x5 => exact .row x1 x2 x3 x4 x5
        | row0 x1 => exact .row0 x1
      | succ j =>
        rw [hLl] at r2
        cases r2 with
        | row x1 x2 x3 x4 x5 => exact .row x1 x2 x3 x4 x5
    cases r6 with | cells hr hph =>
    cases hr with | cons g1 hr =>
    cases hr
    rename_i b6 s6' V6
    refine top1_seq b6 p2 _ V6 L w5 _ (by omega) ?_ (o2 rfl) hrow (fun hph2 => ⟨hB5.own.1 2 _ p2 rfl hp2 hph2 |>.imp id (fun h => h rfl), sfz_of (fz := [2, 6]) hBl hnd hB5.own.1 rfl (l := 2) rfl hp2 hph2 rfl, fun hbb => ?_⟩) s6
    · cases g1 with | gsl hj x1 x2 x3 x4 =>
      have : (nums Hr5)[2]? = some p2.num := nums_get hp2
      rw [this] at hj
      cases hj
      exact .gsl (l := 1) rfl x1 x2 x3 x4
    · have := hnd 2 6 _ _ p2 _ (by decide) rfl rfl rfl rfl hp2 hp6 hph2 hph hbb
      cases this
  have kw : ∀ k, k < L.length → (IntKind.wrap IntKind.i64 ((k : Int) + 1)) = ((k + 1 : Nat) : Int) := fun k hk => by rw [IntKind.wrap_i64]; omega
  refine ev_rangeAt hE 60 (m := ⟨[.cells [.gsl .any 2 0 L.length, .bool true true] t0, .row L.length 5 (F5 L) cvE none, .row L.length 5 (F5 L) cvE none, .cells [.gsl .any 1 0 L.length] 27, .cells [.int .i64 false many] 3, .cells [.bool true false] 4, .cells [.gsl .any 2 0 L.length] 27, .cells [.int .i64 false (((0 : Nat) : Int))] 3], [], newW 3⟩) (live := [(4, .ptr 3 0), (5, .ptr 4 0), (6, .ptr 5 0), (8, .ptr 7 0), (22, .func (.func 75) [.ptr 6 0])]) (n := Try.f30.ntmps) (caps := [.ptr 6 0]) (xs := L.reverse) (encs := tpEnc) (by kernel_rfl) (fun _ => by kernel_rfl) (enters_of Try.func75 (by kernel_rfl) rfl) (by kernel_rfl) [2, 6] hseq (fun k x => [.int .i64 true (k : Int), .agg (v5 x)]) (fun k x _ => rfl) (fun _ _ => rfl) (fun k => [.cells [.gsl .any 2 0 L.length, .bool true true] t0, .row L.length 5 (F5 L) cvE none, .row L.length 5 (F5 L) cvE none, .cells [.gsl .any 1 0 L.length] 27, .cells [.int .i64 false many] 3, .cells [.bool true false] 4, .cells [.gsl .any 2 0 L.length] 27, .cells [.int .i64 false (((k : Nat) : Int))] 3]) rfl (fun _ => rfl) (fun k => [false, false, false, decide ((IntKind.wrap IntKind.i64 ((k : Int) + 1)) ≥ many)]) (fun k => decide ((IntKind.wrap IntKind.i64 ((k : Int) + 1)) ≥ many))
    (fun k x r hx hbr => ?_) hP5 hB5 fun k a6 Hr6 w6 hEn hP6 hB6 hT6 => ?_
  · obtain ⟨hk, hxx⟩ := rev_x hx
    have hi : Int.toNat ((0 : Int) + IntKind.wrap IntKind.i64 (IntKind.wrap IntKind.i64 ((L.length : Int) - 1) - (k : Int))) = L.length - 1 - k := by simp only [IntKind.wrap_i64]; omega
    have hc1 : (decide (0 ≤ IntKind.wrap IntKind.i64 (IntKind.wrap IntKind.i64 ((↑(List.length L) : Int) - 1) - (↑k : Int)) ∧ IntKind.wrap IntKind.i64 (IntKind.wrap IntKind.i64 ((↑(List.length L) : Int) - 1) - (↑k : Int)) < (↑(List.length L) : Int))) = true := decide_eq_true (by simp only [IntKind.wrap_i64]; omega)
    have hc2 : (decide (0 ≤ (0 : Int) + IntKind.wrap IntKind.i64 (IntKind.wrap IntKind.i64 ((↑(List.length L) : Int) - 1) - (↑k : Int)) ∧ (0 : Int) + IntKind.wrap IntKind.i64 (IntKind.wrap IntKind.i64 ((↑(List.length L) : Int) - 1) - (↑k : Int)) < (↑(List.length L) : Int))) = true := decide_eq_true (by simp only [IntKind.wrap_i64]; omega)
    have hc3 : (true != (V5.a x == V5.a (List.getD L (Int.toNat ((0 : Int) + IntKind.wrap IntKind.i64 (IntKind.wrap IntKind.i64 ((↑(List.length L) : Int) - 1) - (↑k : Int)))) z5) && (V5.b x == V5.b (List.getD L (Int.toNat ((0 : Int) + IntKind.wrap IntKind.i64 (IntKind.wrap IntKind.i64 ((↑(List.length L) : Int) - 1) - (↑k : Int)))) z5) && (V5.c x == V5.c (List.getD L (Int.toNat ((0 : Int) + IntKind.wrap IntKind.i64 (IntKind.wrap IntKind.i64 ((↑(List.length L) : Int) - 1) - (↑k : Int)))) z5) && (V5.d x == V5.d (List.getD L (Int.toNat ((0 : Int) + IntKind.wrap IntKind.i64 (IntKind.wrap IntKind.i64 ((↑(List.length L) : Int) - 1) - (↑k : Int)))) z5) && (V5.l x == V5.l (List.getD L (Int.toNat ((0 : Int) + IntKind.wrap IntKind.i64 (IntKind.wrap IntKind.i64 ((↑(List.length L) : Int) - 1) - (↑k : Int)))) z5) && true)))))) = false := by rw [hi, hxx]; simp
    change Is (evR _ _ _ _ _ _ (rndK _ _ _ [.cells [.gsl .any 2 0 L.length, .bool true true] t0, .row L.length 5 (F5 L) cvE none, .row L.length 5 (F5 L) cvE none, .cells [.gsl .any 1 0 L.length] 27, .cells [.int .i64 false many] 3, .cells [.bool true false] 4, .cells [.gsl .any 2 0 L.length] 27, .cells [.int .i64 false (((k + 1 : Nat) : Int))] 3]))
    rw [← kw k hk]
    rcases hz : decide ((IntKind.wrap IntKind.i64 ((k : Int) + 1)) ≥ many) with _ | _
    · have hbr := hz
      exact is_rf R L many t0 k x (allE_cons (by simp) (allE_cons (decide_eq_false (by omega)) (allE_cons hc1 (allE_cons hc2 (allE_cons hc3 (allE_cons hbr allE_nil)))))) r
    · have hbr := hz
      exact is_rt R L many t0 k x (allE_cons (by simp) (allE_cons (decide_eq_false (by omega)) (allE_cons hc1 (allE_cons hc2 (allE_cons hc3 (allE_cons hbr allE_nil)))))) r
  rw [List.length_reverse] at hEn
  have hkn : k ≤ L.length := by rcases hEn with ⟨h1, _⟩ | ⟨_, h1, _⟩ <;> omega
  have hb : ∀ j, j < L.length → (decide ((IntKind.wrap IntKind.i64 ((j : Int) + 1)) ≥ many) = true ↔ many ≤ (j : Int) + 1) := fun j hj => by
    rw [kw j hj]; simp
  have hA : (k = L.length ∧ (0 < L.length → (L.length : Int) < many)) ∨ (0 < k ∧ many ≤ (k : Int) ∧ (2 ≤ k → (k : Int) - 1 < many)) := by
    rcases hEn with ⟨h1, h2⟩ | ⟨h1, h2, h3, h4⟩
    · refine .inl ⟨h1, fun h0 => ?_⟩
      have h5 : decide (IntKind.wrap IntKind.i64 (((L.length - 1 : Nat) : Int) + 1) ≥ many) = false := h2 (L.length - 1) (by omega)
      have h6 := hb (L.length - 1) (by omega)
      have h7 : ¬ many ≤ ((L.length - 1 : Nat) : Int) + 1 := fun h => by rw [h6.2 h] at h5; cases h5
      omega
    · have h6 := (hb (k - 1) (by omega)).1 h3
      refine .inr ⟨h1, by omega, fun h0 => ?_⟩
      have h5 : decide (IntKind.wrap IntKind.i64 (((k - 2 : Nat) : Int) + 1) ≥ many) = false := h4 (k - 2) (by omega)
      have h7 := hb (k - 2) (by omega)
      have h8 : ¬ many ≤ ((k - 2 : Nat) : Int) + 1 := fun h => by rw [h7.2 h] at h5; cases h5
      omega
  have hfx : ((k : Int) == bif false then if (bif true then if many > 1 then many else 1 else if many < 1 then many else 1) > (↑(List.length L) : Int) then bif true then if many > 1 then many else 1 else if many < 1 then many else 1 else (↑(List.length L) : Int) else if (bif true then if many > 1 then many else 1 else if many < 1 then many else 1) < (↑(List.length L) : Int) then bif true then if many > 1 then many else 1 else if many < 1 then many else 1 else (↑(List.length L) : Int)) = true := by
    simp only [cond_true, cond_false, beq_iff_eq]
    repeat' split
    all_goals omega
  have hP6 := hP6.wk (live' := [(4, .ptr 3 0), (5, .ptr 4 0), (6, .ptr 5 0), (8, .ptr 7 0), (22, .func (.func 75) [.ptr 6 0])]) (ds' := []) (wr' := newW 3) (wkV.refl _) (wkM.refl _)
  have hP6 := patSt_live hP6 (live' := [(4, .ptr 3 0), (6, .ptr 5 0), (5, .ptr 4 0), (8, .ptr 7 0)]) (looks_of (by rfl)) (by kernel_rfl)
  refine ev_codeWS hE 60 [0, 1, 2, 3, 4, 5, 6, 7] .ret (by decide) (by rfl) (is_6 R L many t0 (k : Int)) (wkV.refl _) (H'' := [.cells [.gsl .any 2 0 L.length, .bool true true] t0, .row L.length 5 (F5 L) cvE none, .row L.length 5 (F5 L) cvE none, .cells [.gsl .any 1 0 L.length] 27, .cells [.int .i64 false many] 3, .cells [.bool false true] 4, .cells [.gsl .any 2 0 L.length] 27, .cells [.int .i64 false (k : Int)] 3]) ⟨wkI.refl _, wkI.refl _, wkI.refl _, wkI.refl _, wkI.refl _, ⟨rfl, wkA_boolE hfx, trivial⟩, wkI.refl _, wkI.refl _, trivial⟩ hP6 hB6 fun a7 Hr7 w7 hP7 hB7 hT7 => ?_
  have h15 := (((hT1.trans hT2).trans hT3).trans hT4).trans hT5
  have h17 := (h15.trans hT6).trans hT7
  exact ev_endD hE (Ds := [w5.heap.size]) (Hr0 := Hr) (vs := [.bool false true]) (V := .bool true) (fun rs => by kernel_rfl) rfl hRp hP7 hB7 (by rw [hl3]; exact h17) (fun D hD => by rw [List.mem_singleton.1 hD]; exact h15.size) (.inl rfl)
end Go.Proofs.Ytcfomhnfhalmaaa
end

section
set_option linter.unusedVariables false
set_option linter.unusedSimpArgs false
set_option maxRecDepth 100000
namespace Go.Proofs.Ytcfomhnfhalmaaa
open Go.RowKit

def a7 (x : A7) : List AV := [.int .i64 false x.w, .int .i64 false x.n, .bv .u64 x.v.a, .bv .u64 x.v.b, .bv .u64 x.v.c, .bv .u64 x.v.d, .bv .u64 x.v.l]
noncomputable def RC (A0 : Option Addr) (X : List V5) : Rws := rws (mkRow A0 X.length 5 (F5 X) :: [])
noncomputable def isTwo (a : Nat) (S S' : SmP) : CtrF := fun args H => match args with
  | .ptr j 0 :: _ => bif Nat.beq j a then frP S args H else frP S' args H
  | _ => none
noncomputable def mAR (S : SmF) : List (Nat × CtmF) := [(25, frF S)]
noncomputable def tRA (S : SmP) : List (Nat × CtrF) := (34, frP S) :: (tabW ++ tabS)
noncomputable def tIS (S S' U U' : SmP) : List (Nat × CtrF) := (30, isTwo 4 S S') :: (26, isTwo 4 U U') :: (tabW ++ tabS)
end Go.Proofs.Ytcfomhnfhalmaaa
end

section
set_option linter.unusedVariables false
set_option linter.unusedSimpArgs false
set_option maxRecDepth 100000
end

section
set_option linter.unusedVariables false
set_option linter.unusedSimpArgs false
set_option maxRecDepth 100000
namespace Go.Proofs.Ytcfomhnfhalmaaa
open Go.RowKit

theorem top_seqG {R : Rws} {D : List Deferred} {live : List (Nat × AV)} {n : Nat} {ds : List Bool} {wr : Nat → Bool} {ac : Act} (Hr : List RBlk) (w : World) (L : List V5) (hn : L.length ≤ 100000) {H : Mem} (jc jr : Nat) {k : Cp} {T : TypeId} {own : Option Nat} {fz : List Nat} (hc : H[jc]? = some (.cells [.gsl k jr 0 L.length] T)) (hr : H[jr]? = some (.row L.length 5 (F5 L) cvE own)) (hne : jr ≠ jc) (how : (AIt.row L.length 5 (F5 L) cvE own).owner jr ≠ jc) (hv : liveB H = true) (ho1 : ownB jc fz 0 H = true) (ho2 : ownB ((AIt.row L.length 5 (F5 L) cvE own).owner jr) fz 0 H = true) (hP : PatSt R D live n ⟨H, ds, wr⟩ ac Hr) (hO : OwnK R H Hr w) (lb : List Value) (hlb : RelL R (nums Hr) [.ptr jc 0] lb) : Seq Try.prog 75 lb.toArray tpEnc L.reverse (Sfz fz Hr w) w := by
  obtain ⟨rs, vs, _, _, hBl, hnd⟩ := hP
  cases hlb with | cons h1 h2 =>
  cases h2
  obtain ⟨q, hq, rfl⟩ := rel_ptr h1
  obtain ⟨p6, hp6, rfl⟩ := nums_at hq
  have hph6 := hBl.cph (l := jc) hc hp6
  have r6 := hBl.2 jc _ p6 hc hp6
  obtain ⟨o1, o2⟩ := hO.1 jc _ p6 hc hp6 hph6
  have s6 := sfz_of (fz := fz) hBl hnd hO.1 hv (l := jc) hc hp6 hph6 ho1
  obtain ⟨p2, hp2⟩ : ∃ p2, Hr[jr]? = some p2 := ⟨_, List.getElem?_eq_getElem (by rw [hBl.1]; exact (List.getElem?_eq_some_iff.1 hr).1)⟩
  have r2 := hBl.2 jr _ p2 hr hp2
  have hrow : ∀ ρ, RelI noRows ρ (.row L.length 5 (F5 L) cvE none) p2 := fun ρ => by
    cases hLl : L.length with
    | zero =>
      rw [hLl] at r2
      cases r2 with
      | row x1 x2 x3 x4 x5 => exact .row x1 x2 x3 x4 x5
      | row0 x1 => exact .row0 x1
    | succ j =>
      rw [hLl] at r2
      cases r2 with
      | row x1 x2 x3 x4 x5 => exact .row x1 x2 x3 x4 x5
  cases r6 with | cells hr6 hph =>
  cases hr6 with | cons g1 hr6 =>
  cases hr6
  rename_i b6 s6' V6
  have g1 := wkA_any _ _ _ g1
  refine top1_seq b6 p2 _ V6 L w _ hn ?_ (o2 rfl) hrow (fun hph2 => ⟨hO.1 jr _ p2 hr hp2 hph2 |>.imp id (fun h => h rfl), sfz_of (fz := fz) hBl hnd hO.1 hv (l := jr) hr hp2 hph2 ho2, fun hbb => ?_⟩) s6
  · cases g1 with | gsl hj x1 x2 x3 x4 =>
    have : (nums Hr)[jr]? = some p2.num := nums_get hp2
    rw [this] at hj
    cases hj
    exact .gsl (l := 1) rfl x1 x2 x3 x4
  · exact how (hnd jr jc _ _ p2 _ hne hr hc rfl rfl hp2 hp6 hph2 hph hbb)
end Go.Proofs.Ytcfomhnfhalmaaa
end

section
set_option linter.unusedVariables false
set_option linter.unusedSimpArgs false
set_option maxRecDepth 100000
namespace Go.Proofs.Ytcfomhnfhalmaaa
open Go.RowKit

theorem g5 (L : List V5) : ∀ i, ∃ V, AV.vals? (F5 L i) = some V ∧ V.length = 5 ∧ ∀ v ∈ V, v.oneCell' = true := fun i => ⟨_, rfl, rfl, fun v hv => by
  simp only [List.mem_cons, List.not_mem_nil, or_false] at hv
  rcases hv with rfl | rfl | rfl | rfl | rfl <;> rfl⟩
theorem g4 (L : List V4) : ∀ i, ∃ V, AV.vals? (F4 L i) = some V ∧ V.length = 4 ∧ ∀ v ∈ V, v.oneCell' = true := fun i => ⟨_, rfl, rfl, fun v hv => by
  simp only [List.mem_cons, List.not_mem_nil, or_false] at hv
  rcases hv with rfl | rfl | rfl | rfl <;> rfl⟩
end Go.Proofs.Ytcfomhnfhalmaaa
end

section
set_option linter.unusedVariables false
set_option linter.unusedSimpArgs false
set_option maxRecDepth 100000
end
