/- Euclid's way, as a range over a function. No condition. -/
import Derived.Test.YtjmaigienigpnaaSpJ
set_option linter.unusedVariables false
set_option linter.unusedSimpArgs false
namespace Go.Proofs.Ytjmaigienigpnaa
open Go.RowKit

attribute [local go_sem] Oper.semAt_some
def stepsL (a b : BitVec 256) : List (BitVec 256) := (pairsL a b).map (·.1)
abbrev encW : Nat → BitVec 256 → Array Value := fun _ x => #[W x]
theorem stepsL_at {a b : BitVec 256} {k : Nat} {x : BitVec 256 × BitVec 256} (h : (pairsL a b)[k]? = some x) : (stepsL a b)[k]? = some x.1 := by unfold stepsL; rw [List.getElem?_map, h]; rfl
theorem stepsL_len (a b : BitVec 256) : (stepsL a b).length = (pairsL a b).length := by simp [stepsL]
theorem Own.keep {S : Nat → Prop} {A B : World} {H : List Block} (h : Keep S A B) (ho : Own H A) (hs : ∀ p ∈ H, S p.1) : Own H B := fun p hp => h.blk (ho p hp) (hs p hp)
def StI (J : Nat → World → Prop) (n y : Nat) (c : Array Value) (S : Nat → Prop) (w0 : World) (k : Nat) (V : World) : Prop :=
  k ≤ n ∧ J k V ∧ Own [(y, c, 40)] V ∧ Keep S w0 V
theorem stI_any {J : Nat → World → Prop} {n y B : Nat} {c : Array Value} {S : Nat → Prop} {w0 : World} (hJ : AnyFrom B J) (hy : y + 1 ≤ B) (h0 : ∀ k, S k → k < B ∨ w0.heap.size ≤ k) : AnyFrom B (StI J n y c S w0) := fun k V V' row ⟨hk, hj, ho, hkp⟩ hg hr =>
  ⟨hk, hJ _ V V' row hj hg hr, any_own (β := Unit) (H := fun _ => _) (fun _ p hp => by simp only [List.mem_cons, List.not_mem_nil, or_false] at hp; rcases hp with rfl; (dsimp only; omega)) () V V' row ho hg hr, any_keep (β := Unit) h0 () V V' row hkp hg hr⟩
set_option maxHeartbeats 8000000 in
set_option maxRecDepth 20000 in
theorem steps1_seq (ba bb : Nat) (a b : BitVec 256) (w0 : World) (S : Nat → Prop) (hca : Blk w0 ba (wc a) 24) (hcb : Blk w0 bb (wc b) 24) (hSa : S ba) (hSb : S bb) :
    Seq Try.prog 37 #[.pointer (some ⟨ba, 0, none⟩), .pointer (some ⟨bb, 0, none⟩)] encW (stepsL a b) S w0 := by
  intro l J Jx W0 hW hJ hJx hY h0
  have hla := hca.lt
  have hlb := hcb.lt
  have hW' : Keep (fun k => S k ∧ k < w0.heap.size) w0 W0 := hW.mono (fun k hk => hk.1)
  have hzW := hW.size
  have hba := (hW.blk hca hSa)
  have hbb := (hW.blk hcb hSb)
  have hca0 := hba.cell
  have hcb0 := hbb.cell
  have hla0 := hba.lt
  have hlb0 := hbb.lt
  have HLN := Lib.hid (stepsL_len a b)
  have HAT := Lib.hid (fun k x (h : (pairsL a b)[k]? = some x) => stepsL_at h)
  have HPS := Lib.hid (fun bp V S h hs => pairs1_seq bp a b V S h hs)
  have HPA := Lib.hid (fun V => pairs_any (a, b) V)
  have HY := Lib.hid hY
  have HJ := Lib.hid hJ
  have HX := Lib.hid hJx
  have HW := Lib.hid hW'
  clear hY hJ hJx hW hW' hca hcb hba hbb
  generalize hxe : stepsL a b = xs at *
  generalize pairsL a b = ps at *
  refine calls_marks Try.func37 rfl ?_
  simp only [Try.ntmps37, List.size_toArray, List.length_cons, List.length_nil, Nat.reduceAdd, Nat.reduceSub, Array.replicate_succ, Array.replicate_zero, List.push_toArray, List.append_toArray, List.nil_append, List.cons_append]
  go_wp2_with fail
  go_step3
  go_wp2_with fail
  refine wp_label ?_
  go_wp2_with fail
  refine (HPA.out _).mono ?_
  rintro e w1 ⟨rfl, rfl⟩
  go_wp2_with fail
  refine wp_name fun W2 hW2 => ?_
  have hz2 : W2.heap.size = W0.heap.size + 2 := by rw [hW2]; simp
  have hkW : Keep (fun k => S k ∧ k < w0.heap.size) w0 W2 := by rw [hW2]; exact (HW.out.alloc _).alloc _
  have hj2 : J 0 W2 := by rw [hW2]; exact HJ.out.alloc _ (HJ.out.alloc _ h0)
  have hO2 : Own [(W0.heap.size + 1, prC (a, b), 43), (W0.heap.size, #[.func (.yield l) #[] #[]], 40)] W2 := by
    rw [hW2]; exact Own.new (Own.new (Own.nil W0) _ rfl) _ (by simp)
  have hvb := Own.get hO2 0 rfl
  clear hW2
  try rw [World.size_alloc]
  refine wp_each_own (w0 := W2) (xs := ps) (encs := encPr) (S := fun k => (S k ∧ k < w0.heap.size) ∨ k = W0.heap.size + 1) (M := (· = W0.heap.size + 1)) rfl (enters_of Try.func51 (by kernel_rfl) rfl)
    (HPS.out (W0.heap.size + 1) W2 _ hvb (.inr rfl)) (fun k hk => by omega) (fun k hk => by rcases hk with hk | hk <;> omega) (Keep.refl _ _) (fun _ _ => rfl)
    (StI J ps.length W0.heap.size #[.func (.yield l) #[] #[]] (fun k => S k ∧ k < w0.heap.size) w0) (fun c _ V => c = .exit 0 ∧ ∃ j, j ≤ ps.length ∧ Jx j V) ?hI ?hIx ?h0 ?round ?done ?stop
  case hI => exact anyOn_of (B' := W0.heap.size + 1) (stI_any (HJ.out.mono (by omega)) (by omega) (fun k hk => by omega)) (by omega) (fun k hk => by omega)
  case hIx =>
    exact fun c k V V' row ⟨h, j, hjm, hj⟩ hg hr => ⟨h, j, hjm, HX.out _ V V' row hj hg (fun r e => by rcases hr r e with h | h <;> omega)⟩
  case h0 => exact ⟨Nat.zero_le _, hj2, Own.tl hO2, hkW⟩
  case round =>
    intro l' k x V hx hE hl'
    gi_wp2
    refine ⟨(Keep.refl _ _).alloc _, fun V' => StI J ps.length W0.heap.size #[.func (.yield l) #[] #[]] (fun k => S k ∧ k < w0.heap.size) w0 k V' ∧ Blk V' V.heap.size (prC x) 43, ?own, ⟨AnyFrom.alloc (B := W2.heap.size) (stI_any (HJ.out.mono (by omega)) (by omega) (fun k hk => by omega)) _ hE, heap_alloc_new _ _⟩, ?body⟩
    case own =>
      exact fun _ V V' row ⟨hE, hb⟩ hg hr => ⟨(stI_any (HJ.out.mono (by omega)) (by omega) (fun k hk => by omega)).from _ V V' row hE hg hr, ownFrom_blk (β := Unit) () V V' row hb hg hr⟩
    case body =>
      have hkl : k < ps.length := (List.getElem?_eq_some_iff.1 hx).1
      have hVs : W0.heap.size < V.heap.size := hE.2.2.1.lt 0 rfl
      generalize V.heap.size = bx at *
      clear hE hca0 hcb0
      rintro w ⟨⟨hkm, hjV, hOV, hkV⟩, hbx⟩
      have cx := hbx.cell
      have fx := hbx.free
      have cy := Own.cell hOV 0 rfl
      have hlx := hbx.lt
      have hly := hOV.lt 0 rfl
      obtain ⟨fn, tmps, assign, body, hyy, hR⟩ := HY.out k x.1 w (HAT.out k x hx) hjV
      try simp only [encW] at hyy
      have HOV := Lib.hid hOV
      have HKV := Lib.hid hkV
      clear hOV hkV hjV hbx
      gi_wp2
      refine ⟨rfl, (show RoundIn (Fence.wide.inRound l') 0 _ _ _ _ _ _ _ _ from hR).mono ?_⟩
      rintro e V4 (⟨rfl, hJ4, hk4⟩ | ⟨rfl, hJx4, hk4⟩)
      · gi_wp2
        have hk5 : Keep (fun b => ((S b ∧ b < w0.heap.size) ∨ b = W0.heap.size + 1) ∨ W2.heap.size ≤ b) w V4 := hk4.mono (fun q hq => by rcases hq with (hq | hq) | hq <;> first | exact .inl hq.1 | exact .inr (by omega))
        have hk6 : Keep (fun b => S b ∧ b < w0.heap.size) w V4 := hk4.mono (fun q hq => .inl hq.1)
        exact ⟨hk5, by omega, hJ4, Own.keep hk4 HOV.out (by simp only [List.mem_cons, List.not_mem_nil, or_false, forall_eq]; exact .inr (Nat.le_refl _)), HKV.out.trans hk6⟩
      · gi_wp2
        have hk5 : Keep (fun b => W2.heap.size ≤ b) w V4 := hk4.mono (fun q hq => by omega)
        exact ⟨hk5, rfl, k + 1, by omega, hJx4⟩
  case done =>
    rintro V ⟨hkm, hj, ho, hk⟩ hD
    rw [← HLN.out] at hj
    go_wp2_with fail
    exact end_mark1 hD (results_none rfl _ _ _) ⟨⟨_, rfl⟩, .inl (HJ.out.putObj _ hj (by omega))⟩
  case stop =>
    rintro c k V hkn ⟨rfl, j, hjm, hj⟩ hD
    go_wp2_with fail
    exact end_mark1 hD (results_none rfl _ _ _) ⟨⟨_, rfl⟩, .inr ⟨j, by rw [HLN.out]; exact hjm, HX.out.putObj _ hj (by omega)⟩⟩
theorem steps_any (a b : BitVec 256) (w : World) : Calls Try.prog 14 #[W a, W b] w fun e w' => ∃ b1 b2 n0 : Nat, e = .returned (.func (.func 37) #[] #[.pointer (some ⟨b1, 0, none⟩), .pointer (some ⟨b2, 0, none⟩)]) ∧ n0 = w'.heap.size ∧
      Seq Try.prog 37 #[.pointer (some ⟨b1, 0, none⟩), .pointer (some ⟨b2, 0, none⟩)] encW (stepsL a b) (fun k => k < n0) w' ∧ Below w.heap.size w w' := by
  have HQ := Lib.hid (fun b1 b2 V S h1 h2 s1 s2 => steps1_seq b1 b2 a b V S h1 h2 s1 s2)
  go_enter Try.func14, Try.ntmps14
  go_wp2_with fail
  go_ret
  have hO := Own.new (Own.new (Own.nil w) (w.heap.size) (by first | rfl | simp) (c := wc a) (t := 24)) (w.heap.size + 1) (by simp) (c := wc b) (t := 24)
  exact ⟨_, _, _, rfl, rfl, HQ.out _ _ _ _ (Own.get hO 1 rfl) (Own.get hO 0 rfl) (by simp <;> omega) (by simp <;> omega), by go_grown⟩
end Go.Proofs.Ytjmaigienigpnaa
