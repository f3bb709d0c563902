/- Walks: what is reached, one behind the other, as a range over a function (Sizes). -/
import Derived.Test.YtclgoamhbakdlaaPriceR
import Derived.Shelf.Abstract
import Derived.RegionIn
set_option linter.unusedVariables false
set_option linter.unusedSimpArgs false
namespace Go.Proofs.Ytclgoamhbakdlaa
open Go.RowKit
attribute [local go_sem] Oper.semAt_some

theorem reach_yes {n : Int} {xs : List WW} {k : Nat} {x : WW} (hx : xs[k]? = some x) (he : eK n xs k = 0) (w : World) :
    Calls Try.prog 19 #[.int .i64 (nK n xs k), W x.1, W x.2] w fun e w' => e = .returned (.tuple #[.int .i64 (nK n xs (k + 1)), .int .u64 (reachC (nK n xs k) (atW xs k).1 (atW xs k).2), .int .i64 0]) ∧ Below w.heap.size w w' := by
  have h := reach_any (nK n xs k) x.1 x.2 w
  have ha := atW_of hx
  unfold eK at he
  rw [ha] at he ⊢
  rw [he] at h
  simp only [nK, ha]
  exact h
theorem reach_no {n : Int} {xs : List WW} {k : Nat} {x : WW} (hx : xs[k]? = some x) (w : World) :
    Calls Try.prog 19 #[.int .i64 (nK n xs k), W x.1, W x.2] w fun e w' => e = .returned (.tuple #[.int .i64 (nK n xs (k + 1)), .int .u64 (reachC (nK n xs k) (atW xs k).1 (atW xs k).2), .int .i64 (eK n xs k)]) ∧ Below w.heap.size w w' := by
  have h := reach_any (nK n xs k) x.1 x.2 w
  have ha := atW_of hx
  unfold eK
  simp only [nK, ha]
  exact h
theorem wpIn_mid {F : Fence} {n : Nat} {P : Program} {c : Code} {Q : Exit → Act → World → Prop} {a : Act} {w : World} {A : Act} {W : World} (h : c.wpIn F n P (fun e a' w' => e = .normal ∧ a' = A ∧ w' = W) a w) (hd : Q .normal A W) : c.wpIn F n P Q a w := by
  refine wpIn_mono h ?_
  rintro e a' w' ⟨rfl, rfl, rfl⟩
  exact hd
theorem Own.eqv {H H' : List Block} {w : World} (h : Own H w) (e : H = H') : Own H' w := e ▸ h
theorem Own.keep {S : Nat → Prop} {A B : World} {H : List Block} (h : Keep S A B) (ho : Own H A) (hs : ∀ p ∈ H, S p.1) : Own H B := fun p hp => h.blk (ho p hp) (hs p hp)
def SzI (J : Nat → World → Prop) (n : Int) (xs : List WW) (m y : Nat) (c : Array Value) (S : Nat → Prop) (w0 : World) (k : Nat) (V : World) : Prop :=
  k ≤ m ∧ J k V ∧ Own [(y + 2, #[.int .u64 (aK n xs k)], 25), (y + 1, #[.int .i64 (nK n xs k)], 3), (y, c, 75)] V ∧ Keep S w0 V
theorem szI_any {J : Nat → World → Prop} {n : Int} {xs : List WW} {m y B : Nat} {c : Array Value} {S : Nat → Prop} {w0 : World} (hJ : AnyFrom B J) (hy : y + 3 ≤ B) (h0 : ∀ k, S k → k < B ∨ w0.heap.size ≤ k) : AnyFrom B (SzI J n xs m y c S w0) := fun k V V' row ⟨hk, hj, ho, hkp⟩ hg hr =>
  ⟨hk, hJ _ V V' row hj hg hr, any_own (β := Unit) (H := fun _ => _) (fun _ p hp => by simp only [List.mem_cons, List.not_mem_nil, or_false] at hp; rcases hp with rfl | rfl | rfl <;> (dsimp only; omega)) () V V' row ho hg hr, any_keep (β := Unit) h0 () V V' row hkp hg hr⟩
set_option maxHeartbeats 8000000 in
set_option maxRecDepth 20000 in
theorem sizes1_seq (b b2 : Nat) (A : Option Addr) (n : Int) (xs : List WW) (cap m : Nat) (w0 : World) (S : Nat → Prop) (hc : w0.cell? ⟨b, 0, none⟩ = some (.int .i64 n)) (hc2 : w0.cell? ⟨b2, 0, none⟩ = some (.slice A xs.length cap)) (hS : SlAt w0 A (pairsC xs)) (hcap : xs.length ≤ cap) (hn : xs.length ≤ 100000)
    (hb : S b) (hb2 : S b2) (hA : pairsC xs ≠ [] → ∀ b' off, A = some ⟨b', off, none⟩ → S b') (hm : Upto n xs m) :
    Seq Try.prog 33 #[.pointer (some ⟨b, 0, none⟩), .pointer (some ⟨b2, 0, none⟩)] encZ (zsK n xs m) S w0 := by
  intro l J Jx W0 hW hJ hJx hY h0
  have hlt := World.block_lt_of_cell? w0 ⟨b, 0, none⟩ hc
  have hlt2 := World.block_lt_of_cell? w0 ⟨b2, 0, none⟩ hc2
  have hW' : Keep (fun k => S k ∧ k < w0.heap.size) w0 W0 := hW.mono (fun k hk => hk.1)
  have hzW := hW.size
  have hcW : ∀ o : Obj, (W0.alloc o).cell? ⟨b, 0, none⟩ = some (.int .i64 n) := fun o => kept (World.below_alloc W0 o) (hW.cell hc hb)
  have hcW2 : ∀ o o2 o3 : Obj, (((W0.alloc o).alloc o2).alloc o3).cell? ⟨b2, 0, none⟩ = some (.slice A xs.length cap) := fun o o2 o3 => kept (World.below_alloc _ o3) (kept (World.below_alloc _ o2) (kept (World.below_alloc W0 o) (hW.cell hc2 hb2)))
  have HS := Lib.hid hS
  have HY := Lib.hid hY
  have HJ := Lib.hid hJ
  have HX := Lib.hid hJx
  have HW := Lib.hid hW'
  have HM := Lib.hid hm
  have HRY := Lib.hid (fun k x (hx : xs[k]? = some x) (he : eK n xs k = 0) V => reach_yes hx he V)
  have HRN := Lib.hid (fun k x (hx : xs[k]? = some x) V => reach_no (n := n) hx V)
  have HAA := Lib.hid (fun V b S hc hS hb hA => values1_seq b A xs cap V S hc hS hcap hn hb hA)
  clear hY hJ hJx hS hW hW' hm
  generalize hln : xs.length = ln at *
  refine calls_marks Try.func33 rfl ?_
  simp only [Try.ntmps33, List.size_toArray, List.length_cons, List.length_nil, Nat.reduceAdd, Nat.reduceSub, Array.replicate_succ, Array.replicate_zero, List.push_toArray, List.append_toArray, List.nil_append, List.cons_append]
  go_wp2_with fail
  go_step3
  go_wp2_with fail
  refine wp_label ?_
  go_wp2_with fail
  refine (values_any A ln cap _).mono ?_
  rintro e w1 ⟨rfl, rfl⟩
  clear hcW hcW2
  go_wp2_with fail
  refine wp_name fun W2 hW2 => ?_
  have hz2 : W2.heap.size = W0.heap.size + 4 := by rw [hW2]; simp
  have hkW : Keep (fun k => S k ∧ k < w0.heap.size) w0 W2 := by rw [hW2]; exact (((HW.out.alloc _).alloc _).alloc _).alloc _
  have hj2 : J 0 W2 := by rw [hW2]; exact HJ.out.alloc _ (HJ.out.alloc _ (HJ.out.alloc _ (HJ.out.alloc _ h0)))
  have hO2 : Own [(W0.heap.size + 3, #[.slice A ln cap], 49), (W0.heap.size + 2, #[.int .u64 0], 25), (W0.heap.size + 1, #[.int .i64 n], 3), (W0.heap.size, #[.func (.yield l) #[] #[]], 75)] W2 := by
    rw [hW2]; exact Own.new (Own.new (Own.new (Own.new (Own.nil W0) _ rfl) _ (by simp)) _ (by simp)) _ (by simp)
  have hvb := Own.cell hO2 0 rfl
  clear hW2
  try rw [World.size_alloc, World.size_alloc, World.size_alloc]
  refine wp_each (w0 := W2) (xs := xs) (encs := encP) (S := fun k => (S k ∧ k < w0.heap.size) ∨ k = W0.heap.size + 3) rfl (enters_of Try.func46 (by kernel_rfl) rfl)
    (HAA.out W2 (W0.heap.size + 3) _ (by rw [(hvb 0)]; rfl) (hkW.slAt HS.out (fun hne b' off h => by
      rcases HS.out with hz | ⟨b3, o3, h3, hl3, _⟩
      · exact absurd hz hne
      · rw [h3] at h; cases h; exact ⟨hA hne _ _ h3, hl3⟩)) (.inr rfl) (fun hne b' off h => by
      rcases HS.out with hz | ⟨b3, o3, h3, hl3, _⟩
      · exact absurd hz hne
      · rw [h3] at h; cases h; exact .inl ⟨hA hne _ _ h3, hl3⟩)) (fun k hk => by rcases hk with hk | hk <;> omega) (Keep.refl _ _) (fun _ _ => rfl)
    (SzI J n xs m W0.heap.size #[.func (.yield l) #[] #[]] (fun k => S k ∧ k < w0.heap.size) w0) (fun c _ V => c = .exit 0 ∧ (J m V ∨ ∃ j, j ≤ m ∧ Jx j V)) ?hI ?hIx ?h0 ?round ?done ?stop
  case hI => exact szI_any (HJ.out.mono (by omega)) (by omega) (fun k hk => by omega)
  case hIx =>
    exact fun c k V V' row ⟨h, hj⟩ hg hr => ⟨h, hj.imp (fun hj => HJ.out.mono (by omega) _ V V' row hj hg hr) (fun ⟨j, hjm, hj⟩ => ⟨j, hjm, HX.out.mono (by omega) _ V V' row hj hg hr⟩)⟩
  case h0 => exact ⟨Nat.zero_le _, hj2, Own.tl hO2, hkW⟩
  case round =>
    intro l' k x V hx hE hl'
    gi_wp2
    refine ⟨(Keep.refl _ _).alloc _, fun V' => SzI J n xs m W0.heap.size #[.func (.yield l) #[] #[]] (fun k => S k ∧ k < w0.heap.size) w0 k V' ∧ Blk V' V.heap.size #[.int .u64 (L x.1 0), .int .u64 (L x.1 1), .int .u64 (L x.1 2), .int .u64 (L x.1 3), .int .u64 (L x.2 0), .int .u64 (L x.2 1), .int .u64 (L x.2 2), .int .u64 (L x.2 3)] 55, ?own, ⟨AnyFrom.alloc (B := W2.heap.size) (szI_any (HJ.out.mono (by omega)) (by omega) (fun k hk => by omega)) _ hE, heap_alloc_new _ _⟩, ?body⟩
    case own =>
      exact fun _ V V' row ⟨hE, hb⟩ hg hr => ⟨(szI_any (HJ.out.mono (by omega)) (by omega) (fun k hk => by omega)).from _ V V' row hE hg hr, ownFrom_blk (β := Unit) () V V' row hb hg hr⟩
    case body =>
      have hkl : k < ln := by rw [← hln]; exact (List.getElem?_eq_some_iff.1 hx).1
      have hVs : W0.heap.size + 2 < V.heap.size := hE.2.2.1.lt 0 rfl
      generalize V.heap.size = bx at *
      clear hE
      rintro w ⟨⟨hkm, hjV, hOV, hkV⟩, hbx⟩
      have hbxl := hbx.lt
      have HOW := Lib.hid (Own.cons hbx hOV)
      have HJV := Lib.hid hjV
      have HKV := Lib.hid hkV
      have habd := aK_bd n xs k
      have hcbd := reachC_bd (nK n xs k) (atW xs k).1 (atW xs k).2
      have hwr : IntKind.u64.wrap (aK n xs k + reachC (nK n xs k) (atW xs k).1 (atW xs k).2) = aK n xs (k + 1) := by rw [IntWalk.u64_in _ (by omega)]; rfl
      generalize hcK : reachC (nK n xs k) (atW xs k).1 (atW xs k).2 = cK at *
      clear hjV hOV hkV hbx
      have HWR := Lib.hid hwr
      clear hwr
      by_cases hlt' : k < m
      · have hRE := fun V => HRY.out k x hx (HM.out.2.1 k hlt') V
        rw [hcK] at hRE
        have HRE := Lib.hid hRE
        clear hRE
        have O1 := HOW.out
        have c1x0 := Own.cell O1 0 rfl
        have f1x0 := Own.free O1 0 rfl
        have l1x0 := Own.lt O1 0 rfl
        have l1x0d0 := le_up 0 l1x0
        have l1x0d1 := le_up 1 l1x0
        simp only [upN] at l1x0d0 l1x0d1
        have c1x1 := Own.cell O1 1 rfl
        have f1x1 := Own.free O1 1 rfl
        have l1x1 := Own.lt O1 1 rfl
        have l1x1d0 := le_up 0 l1x1
        have l1x1d1 := le_up 1 l1x1
        simp only [upN] at l1x1d0 l1x1d1
        have c1x2 := Own.cell O1 2 rfl
        have f1x2 := Own.free O1 2 rfl
        have l1x2 := Own.lt O1 2 rfl
        have l1x2d0 := le_up 0 l1x2
        have l1x2d1 := le_up 1 l1x2
        simp only [upN] at l1x2d0 l1x2d1
        have c1x3 := Own.cell O1 3 rfl
        have f1x3 := Own.free O1 3 rfl
        have l1x3 := Own.lt O1 3 rfl
        have l1x3d0 := le_up 0 l1x3
        have l1x3d1 := le_up 1 l1x3
        simp only [upN] at l1x3d0 l1x3d1
        have HO1 := Lib.hid O1
        clear O1
        gi_wp2
        refine ⟨trivial, rfl, (callR _ (HRE.out _)).mono ?_⟩
        rintro e w2 ⟨rfl, hb2⟩
        have O2 := Own.grow' hb2 HO1.out
        try simp only [List.setIfInBounds_toArray, List.set_cons_zero, List.set_cons_succ] at O2
        have bw2 : Below w.heap.size w w2 := Below.trans (by go_grown) (Below.mono hb2 (by first | omega | (simp; done) | (simp; omega)))
        have zw2 := Below.size hb2
        try simp only [World.size_alloc, World.size_drew, World.size_setCell] at zw2
        have kk2 := Keep.below (Keep.refl (fun b => ((S b ∧ b < w0.heap.size) ∨ b = W0.heap.size + 3) ∨ W2.heap.size ≤ b) w) hb2
        have hwc2 : Below w.heap.size w w2 := Below.trans (by go_grown) (Below.mono hb2 (by first | omega | (simp; done) | (simp; omega)))
        clear c1x0 f1x0 l1x0 l1x0d0 l1x0d1 c1x1 f1x1 l1x1 l1x1d0 l1x1d1 c1x2 f1x2 l1x2 l1x2d0 l1x2d1 c1x3 f1x3 l1x3 l1x3d0 l1x3d1
        have c2x0 := Own.cell O2 0 rfl
        have f2x0 := Own.free O2 0 rfl
        have l2x0 := Own.lt O2 0 rfl
        have l2x0d0 := le_up 0 l2x0
        have l2x0d1 := le_up 1 l2x0
        simp only [upN] at l2x0d0 l2x0d1
        have c2x1 := Own.cell O2 1 rfl
        have f2x1 := Own.free O2 1 rfl
        have l2x1 := Own.lt O2 1 rfl
        have l2x1d0 := le_up 0 l2x1
        have l2x1d1 := le_up 1 l2x1
        simp only [upN] at l2x1d0 l2x1d1
        have c2x2 := Own.cell O2 2 rfl
        have f2x2 := Own.free O2 2 rfl
        have l2x2 := Own.lt O2 2 rfl
        have l2x2d0 := le_up 0 l2x2
        have l2x2d1 := le_up 1 l2x2
        simp only [upN] at l2x2d0 l2x2d1
        have c2x3 := Own.cell O2 3 rfl
        have f2x3 := Own.free O2 3 rfl
        have l2x3 := Own.lt O2 3 rfl
        have l2x3d0 := le_up 0 l2x3
        have l2x3d1 := le_up 1 l2x3
        simp only [upN] at l2x3d0 l2x3d1
        have HO2 := Lib.hid O2
        clear O2 hb2
        gi_wp2
        apply wpIn_mid
        · gi_region
          all_goals exact ⟨rfl, rfl, rfl⟩
        rw [HWR.out]
        obtain ⟨V3, hV3⟩ : ∃ V3, V3 = (((w2.setCell ⟨W0.heap.size + 1, 0, none⟩ (.int .i64 (nK n xs (k + 1)))).setCell ⟨W0.heap.size + 1 + 1, 0, none⟩ (.int .u64 (aK n xs (k + 1)))).drew) := ⟨_, rfl⟩
        rw [← hV3]
        have hj3 : J k V3 := by rw [hV3]; exact HJ.out.grow (HJ.out.setCell (b := W0.heap.size + 1 + 1) (.int .u64 (aK n xs (k + 1))) 0 (HJ.out.setCell (b := W0.heap.size + 1) (.int .i64 (nK n xs (k + 1))) 0 (HJ.out.grow HJV.out hwc2) (by omega)) (by omega)) ((Below.refl _ _).drew)
        have ow3 : Own [(bx, #[.int .u64 (L x.1 0), .int .u64 (L x.1 1), .int .u64 (L x.1 2), .int .u64 (L x.1 3), .int .u64 (L x.2 0), .int .u64 (L x.2 1), .int .u64 (L x.2 2), .int .u64 (L x.2 3)], 55), (W0.heap.size + 2, #[.int .u64 (aK n xs (k + 1))], 25), (W0.heap.size + 1, #[.int .i64 (nK n xs (k + 1))], 3), (W0.heap.size, #[.func (.yield l) #[] #[]], 75)] V3 := by rw [hV3]; exact Own.eqv ((Own.set (Own.set HO2.out 2 rfl (Ne1.cons (by first | omega | (simp; omega)) (Ne1.cons (by first | omega | (simp; omega)) (Ne1.cons (by first | omega | (simp; omega)) Ne1.nil)))) 1 rfl (Ne1.cons (by first | omega | (simp; omega)) (Ne1.cons (by first | omega | (simp; omega)) (Ne1.cons (by first | omega | (simp; omega)) Ne1.nil))))).drew (by simp only [List.setIfInBounds_toArray, List.set_cons_zero, List.set_cons_succ])
        have kp3 : Keep (fun b => ((S b ∧ b < w0.heap.size) ∨ b = W0.heap.size + 3) ∨ W2.heap.size ≤ b) w V3 := by rw [hV3]; exact ((Keep.setCell (Keep.setCell kk2 _ _ (.inl (by rintro ((⟨_, h⟩ | h) | h) <;> (dsimp only at h; omega)))) _ _ (.inl (by rintro ((⟨_, h⟩ | h) | h) <;> (dsimp only at h; omega))))).drew
        have cy := Own.cell ow3 3 rfl
        have c4 := Own.cell ow3 2 rfl
        have c5 := Own.cell ow3 1 rfl
        have OW3 := Lib.hid (Own.tl ow3)
        have KP3 := Lib.hid kp3
        clear hV3 ow3 kp3 c2x0 f2x0 l2x0 l2x0d0 l2x0d1 c2x1 f2x1 l2x1 l2x1d0 l2x1d1 c2x2 f2x2 l2x2 l2x2d0 l2x2d1 c2x3 f2x3 l2x3 l2x3d0 l2x3d1
        obtain ⟨fn, tmps, assign, body, hyy, hR⟩ := HY.out k _ V3 (zsK_at hlt') hj3
        try simp only [encZ] at hyy
        gi_wp2
        refine ⟨rfl, (show RoundIn (Fence.wide.inRound l') 0 _ _ _ _ _ _ _ _ from hR).mono ?_⟩
        rintro e V4 (⟨rfl, hJ4, hk4⟩ | ⟨rfl, hJx4, hk4⟩)
        · gi_wp2
          have hk5 : Keep (fun b => ((S b ∧ b < w0.heap.size) ∨ b = W0.heap.size + 3) ∨ W2.heap.size ≤ b) V3 V4 := hk4.mono (fun q hq => by rcases hq with (hq | hq) | hq <;> first | exact .inl hq.1 | exact .inr (by omega))
          have hk6 : Keep (fun b => S b ∧ b < w0.heap.size) V3 V4 := hk4.mono (fun q hq => .inl hq.1)
          have hk7 : Keep (fun b => S b ∧ b < w0.heap.size) w V3 := KP3.out.mono (fun q hq => .inl (.inl hq))
          exact ⟨KP3.out.trans hk5, by omega, hJ4, Own.keep hk4 OW3.out (by simp only [List.mem_cons, List.not_mem_nil, or_false, forall_eq, forall_eq_or_imp]; exact ⟨.inr (by omega), .inr (by omega), .inr (Nat.le_refl _)⟩), HKV.out.trans (hk7.trans hk6)⟩
        · gi_wp2
          have hk5 : Keep (fun b => W2.heap.size ≤ b) V3 V4 := hk4.mono (fun q hq => by omega)
          exact ⟨(KP3.out.mono (fun q hq => .inr hq)).trans hk5, rfl, .inr ⟨k + 1, by omega, hJx4⟩⟩

      · have hkm' : k = m := by omega
        subst hkm'
        have hen := HM.out.2.2 (by rw [hln]; exact hkl)
        have hRE := fun V => HRN.out k x hx V
        rw [hcK] at hRE
        have HRE := Lib.hid hRE
        clear hRE
        generalize eK n xs k = eN at *
        have O1 := HOW.out
        have c1x0 := Own.cell O1 0 rfl
        have f1x0 := Own.free O1 0 rfl
        have l1x0 := Own.lt O1 0 rfl
        have l1x0d0 := le_up 0 l1x0
        have l1x0d1 := le_up 1 l1x0
        simp only [upN] at l1x0d0 l1x0d1
        have c1x1 := Own.cell O1 1 rfl
        have f1x1 := Own.free O1 1 rfl
        have l1x1 := Own.lt O1 1 rfl
        have l1x1d0 := le_up 0 l1x1
        have l1x1d1 := le_up 1 l1x1
        simp only [upN] at l1x1d0 l1x1d1
        have c1x2 := Own.cell O1 2 rfl
        have f1x2 := Own.free O1 2 rfl
        have l1x2 := Own.lt O1 2 rfl
        have l1x2d0 := le_up 0 l1x2
        have l1x2d1 := le_up 1 l1x2
        simp only [upN] at l1x2d0 l1x2d1
        have c1x3 := Own.cell O1 3 rfl
        have f1x3 := Own.free O1 3 rfl
        have l1x3 := Own.lt O1 3 rfl
        have l1x3d0 := le_up 0 l1x3
        have l1x3d1 := le_up 1 l1x3
        simp only [upN] at l1x3d0 l1x3d1
        have HO1 := Lib.hid O1
        clear O1
        gi_wp2
        refine ⟨trivial, rfl, (callR _ (HRE.out _)).mono ?_⟩
        rintro e w2 ⟨rfl, hb2⟩
        have O2 := Own.grow' hb2 HO1.out
        try simp only [List.setIfInBounds_toArray, List.set_cons_zero, List.set_cons_succ] at O2
        have bw2 : Below w.heap.size w w2 := Below.trans (by go_grown) (Below.mono hb2 (by first | omega | (simp; done) | (simp; omega)))
        have zw2 := Below.size hb2
        try simp only [World.size_alloc, World.size_drew, World.size_setCell] at zw2
        have kk2 := Keep.below (Keep.refl (fun b => ((S b ∧ b < w0.heap.size) ∨ b = W0.heap.size + 3) ∨ W2.heap.size ≤ b) w) hb2
        have hwc2 : Below w.heap.size w w2 := Below.trans (by go_grown) (Below.mono hb2 (by first | omega | (simp; done) | (simp; omega)))
        clear c1x0 f1x0 l1x0 l1x0d0 l1x0d1 c1x1 f1x1 l1x1 l1x1d0 l1x1d1 c1x2 f1x2 l1x2 l1x2d0 l1x2d1 c1x3 f1x3 l1x3 l1x3d0 l1x3d1
        have c2x0 := Own.cell O2 0 rfl
        have f2x0 := Own.free O2 0 rfl
        have l2x0 := Own.lt O2 0 rfl
        have l2x0d0 := le_up 0 l2x0
        have l2x0d1 := le_up 1 l2x0
        simp only [upN] at l2x0d0 l2x0d1
        have c2x1 := Own.cell O2 1 rfl
        have f2x1 := Own.free O2 1 rfl
        have l2x1 := Own.lt O2 1 rfl
        have l2x1d0 := le_up 0 l2x1
        have l2x1d1 := le_up 1 l2x1
        simp only [upN] at l2x1d0 l2x1d1
        have c2x2 := Own.cell O2 2 rfl
        have f2x2 := Own.free O2 2 rfl
        have l2x2 := Own.lt O2 2 rfl
        have l2x2d0 := le_up 0 l2x2
        have l2x2d1 := le_up 1 l2x2
        simp only [upN] at l2x2d0 l2x2d1
        have c2x3 := Own.cell O2 3 rfl
        have f2x3 := Own.free O2 3 rfl
        have l2x3 := Own.lt O2 3 rfl
        have l2x3d0 := le_up 0 l2x3
        have l2x3d1 := le_up 1 l2x3
        simp only [upN] at l2x3d0 l2x3d1
        have HO2 := Lib.hid O2
        clear O2 hb2
        gi_wp2
        apply wpIn_mid
        · gi_region
          all_goals exact ⟨rfl, rfl, rfl⟩
        rw [HWR.out]
        obtain ⟨V3, hV3⟩ : ∃ V3, V3 = (((w2.setCell ⟨W0.heap.size + 1, 0, none⟩ (.int .i64 (nK n xs (k + 1)))).setCell ⟨W0.heap.size + 1 + 1, 0, none⟩ (.int .u64 (aK n xs (k + 1)))).drew) := ⟨_, rfl⟩
        rw [← hV3]
        have hj3 : J k V3 := by rw [hV3]; exact HJ.out.grow (HJ.out.setCell (b := W0.heap.size + 1 + 1) (.int .u64 (aK n xs (k + 1))) 0 (HJ.out.setCell (b := W0.heap.size + 1) (.int .i64 (nK n xs (k + 1))) 0 (HJ.out.grow HJV.out hwc2) (by omega)) (by omega)) ((Below.refl _ _).drew)
        have ow3 : Own [(bx, #[.int .u64 (L x.1 0), .int .u64 (L x.1 1), .int .u64 (L x.1 2), .int .u64 (L x.1 3), .int .u64 (L x.2 0), .int .u64 (L x.2 1), .int .u64 (L x.2 2), .int .u64 (L x.2 3)], 55), (W0.heap.size + 2, #[.int .u64 (aK n xs (k + 1))], 25), (W0.heap.size + 1, #[.int .i64 (nK n xs (k + 1))], 3), (W0.heap.size, #[.func (.yield l) #[] #[]], 75)] V3 := by rw [hV3]; exact Own.eqv ((Own.set (Own.set HO2.out 2 rfl (Ne1.cons (by first | omega | (simp; omega)) (Ne1.cons (by first | omega | (simp; omega)) (Ne1.cons (by first | omega | (simp; omega)) Ne1.nil)))) 1 rfl (Ne1.cons (by first | omega | (simp; omega)) (Ne1.cons (by first | omega | (simp; omega)) (Ne1.cons (by first | omega | (simp; omega)) Ne1.nil))))).drew (by simp only [List.setIfInBounds_toArray, List.set_cons_zero, List.set_cons_succ])
        have kp3 : Keep (fun b => ((S b ∧ b < w0.heap.size) ∨ b = W0.heap.size + 3) ∨ W2.heap.size ≤ b) w V3 := by rw [hV3]; exact ((Keep.setCell (Keep.setCell kk2 _ _ (.inl (by rintro ((⟨_, h⟩ | h) | h) <;> (dsimp only at h; omega)))) _ _ (.inl (by rintro ((⟨_, h⟩ | h) | h) <;> (dsimp only at h; omega))))).drew
        have cy := Own.cell ow3 3 rfl
        have c4 := Own.cell ow3 2 rfl
        have c5 := Own.cell ow3 1 rfl
        have OW3 := Lib.hid (Own.tl ow3)
        have KP3 := Lib.hid kp3
        clear hV3 ow3 kp3 c2x0 f2x0 l2x0 l2x0d0 l2x0d1 c2x1 f2x1 l2x1 l2x1d0 l2x1d1 c2x2 f2x2 l2x2 l2x2d0 l2x2d1 c2x3 f2x3 l2x3 l2x3d0 l2x3d1
        have d1 : decide (eN = 0) = false := by simp [hen]
        gi_wp2
        refine ⟨fun _ h => (by cases h), ?_⟩
        gi_wp2
        exact ⟨KP3.out.mono (fun q hq => .inr hq), rfl, .inl hj3⟩

  case done =>
    rintro V ⟨hkm, hj, ho, hk⟩ hD
    have hml := HM.out.1
    have he : xs.length = (zsK n xs m).length := by rw [zsK_len]; omega
    rw [he] at hj
    go_wp2_with fail
    exact end_mark1 hD (results_none rfl _ _ _) ⟨⟨_, rfl⟩, .inl (HJ.out.putObj _ hj (by omega))⟩
  case stop =>
    rintro c k V hkn ⟨rfl, hj⟩ hD
    go_wp2_with fail
    refine end_mark1 hD (results_none rfl _ _ _) ⟨⟨_, rfl⟩, ?_⟩
    rw [zsK_len]
    exact hj.imp (fun hj => HJ.out.putObj _ hj (by omega)) (fun ⟨j, hjm, hj⟩ => ⟨j, hjm, HX.out.putObj _ hj (by omega)⟩)
theorem sizes_any (A : Option Addr) (n : Int) (xs : List WW) (cap m : Nat) (w : World) (hS : SlAt w A (pairsC xs)) (hcap : xs.length ≤ cap) (hn : xs.length ≤ 100000) (hm : Upto n xs m) :
    Calls Try.prog 20 #[.int .i64 n, .slice A xs.length cap] w fun e w' => ∃ b b2 n0 : Nat, e = .returned (.func (.func 33) #[] #[.pointer (some ⟨b, 0, none⟩), .pointer (some ⟨b2, 0, none⟩)]) ∧ n0 = w'.heap.size ∧
      Seq Try.prog 33 #[.pointer (some ⟨b, 0, none⟩), .pointer (some ⟨b2, 0, none⟩)] encZ (zsK n xs m) (fun k => k < n0) w' ∧ Below w.heap.size w w' := by
  have HQ := Lib.hid (fun b b2 V S hc hc2 hS hb hb2 hA => sizes1_seq b b2 A n xs cap m V S hc hc2 hS hcap hn hb hb2 hA hm)
  have HS := Lib.hid hS
  clear hS hm
  generalize hln : xs.length = ln at *
  go_enter Try.func20, Try.ntmps20
  go_wp2_with fail
  go_ret
  have hb : Below w.heap.size w ((w.alloc (.cells #[.int .i64 n] 3)).alloc (.cells #[.slice A ln cap] 49)) := by go_grown
  refine ⟨_, _, _, rfl, rfl, HQ.out _ _ _ _ (kept (World.below_alloc _ _) (newc _ _ _ _ rfl)) (by have := newc (w.alloc (.cells #[.int .i64 n] 3)) #[.slice A ln cap] 49 0 (v := .slice A ln cap) rfl; rw [World.size_alloc] at this; exact this) (HS.out.grow hb) (by simp; omega) (by simp) (fun hne b' off h => ?_), hb⟩
  rcases HS.out with hz | ⟨b3, o3, h3, hl3, _⟩
  · exact absurd hz hne
  · rw [h3] at h; cases h; have := hb.size; omega
end Go.Proofs.Ytclgoamhbakdlaa
