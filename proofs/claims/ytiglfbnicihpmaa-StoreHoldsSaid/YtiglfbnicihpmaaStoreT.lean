/- Walks: store.Total: refunds one behind the other, as a range over a function. -/
import Derived.Test.YtiglfbnicihpmaaStoreTa
import Derived.Shelf.Abstract
import Derived.RegionIn
set_option linter.unusedVariables false
set_option linter.unusedSimpArgs false
namespace Go.Proofs.Ytiglfbnicihpmaa
open Go.RowKit
attribute [local go_sem] Oper.semAt_some

def atV (xs : List Vl) (k : Nat) : Vl := xs.getD k ⟨0, 0, 0, 0, 0⟩
theorem atV_of {xs : List Vl} {k : Nat} {x : Vl} (h : xs[k]? = some x) : atV xs k = x := by simp [atV, h]
/-- What is, behind so many. -/
def nowV (x0 : Vl) (xs : List Vl) : Nat → Vl
  | 0 => x0
  | k + 1 => atV xs k
/-- The refund behind so many. -/
def gR (x0 : Vl) (xs : List Vl) : Nat → Kn
  | 0 => ⟨0, 0, 0, 0⟩
  | k + 1 => refK (gR x0 xs k) x0 (nowV x0 xs k) (atV xs k)
def okR (x0 : Vl) (xs : List Vl) (k : Nat) : Bool := refOk (gR x0 xs k) x0 (nowV x0 xs k) (atV xs k)
def UptoR (x0 : Vl) (xs : List Vl) (m : Nat) : Prop := m ≤ xs.length ∧ (∀ j, j < m → okR x0 xs j = true) ∧ (m < xs.length → okR x0 xs m = false)
theorem upto_first (p : Nat → Bool) : ∀ n, ∃ m, m ≤ n ∧ (∀ j, j < m → p j = true) ∧ (m < n → p m = false)
  | 0 => ⟨0, Nat.le_refl _, fun j h => absurd h (Nat.not_lt_zero _), fun h => absurd h (Nat.lt_irrefl _)⟩
  | n + 1 => by
    obtain ⟨m, h1, h2, h3⟩ := upto_first p n
    by_cases hm : m < n
    · exact ⟨m, by omega, h2, fun _ => h3 hm⟩
    · obtain rfl : m = n := by omega
      rcases hp : p m with _ | _
      · exact ⟨m, by omega, h2, fun _ => hp⟩
      · refine ⟨m + 1, Nat.le_refl _, fun j hj => ?_, fun h => absurd h (Nat.lt_irrefl _)⟩
        by_cases e : j = m
        · rw [e]; exact hp
        · exact h2 j (by omega)
theorem uptoR_has (x0 : Vl) (xs : List Vl) : ∃ m, UptoR x0 xs m := upto_first (okR x0 xs) xs.length
theorem gR_tame {x0 : Vl} {xs : List Vl} {m : Nat} (hm : UptoR x0 xs m) : ∀ k, k ≤ m → Tame (gR x0 xs k)
  | 0, _ => show Tame ⟨0, 0, 0, 0⟩ from ⟨⟨by decide, by decide⟩, by decide, by decide, by decide⟩
  | k + 1, h => ref_tame (gR_tame hm k (by omega)) (hm.2.1 k (by omega))
def zsR (x0 : Vl) (xs : List Vl) (m : Nat) : List Kn := (List.range m).map fun k => gR x0 xs (k + 1)
abbrev encR : Nat → Kn → Array Value := fun k x => #[.int .i64 (k : Nat), .agg #[.int .u64 x.l, .int .u64 x.lo, .int .u64 x.hi, .int .u64 x.a]]
theorem zsR_len (x0 : Vl) (xs : List Vl) (m : Nat) : (zsR x0 xs m).length = m := by simp [zsR]
theorem zsR_at {x0 : Vl} {xs : List Vl} {m k : Nat} (h : k < m) : (zsR x0 xs m)[k]? = some (gR x0 xs (k + 1)) := by simp [zsR, h]
theorem wpIn_mid {F : Fence} {n : Nat} {P : Program} {c : Code} {Q : Exit → Act → World → Prop} {a : Act} {w : World} {A : Act} {W : World} (h : c.wpIn F n P (fun e a' w' => e = .normal ∧ a' = A ∧ w' = W) a w) (hd : Q .normal A W) : c.wpIn F n P Q a w := by
  refine wpIn_mono h ?_
  rintro e a' w' ⟨rfl, rfl, rfl⟩
  exact hd
theorem Own.eqv {H H' : List Block} {w : World} (h : Own H w) (e : H = H') : Own H' w := e ▸ h
theorem Own.tl {q : Block} {H : List Block} {w : World} (h : Own (q :: H) w) : Own H w := fun p hp => h p (List.mem_cons_of_mem _ hp)
theorem Own.keep {S : Nat → Prop} {A B : World} {H : List Block} (h : Keep S A B) (ho : Own H A) (hs : ∀ p ∈ H, S p.1) : Own H B := fun p hp => h.blk (ho p hp) (hs p hp)
def ToI (J : Nat → World → Prop) (x0 : Vl) (xs : List Vl) (m y : Nat) (c : Array Value) (S : Nat → Prop) (w0 : World) (k : Nat) (V : World) : Prop :=
  k ≤ m ∧ J k V ∧ Own [(y + 2, #[.int .u64 (gR x0 xs k).l, .int .u64 (gR x0 xs k).lo, .int .u64 (gR x0 xs k).hi, .int .u64 (gR x0 xs k).a], 37), (y + 1, #[.int .u64 (nowV x0 xs k).a, .int .u64 (nowV x0 xs k).b, .int .u64 (nowV x0 xs k).c, .int .u64 (nowV x0 xs k).d, .int .u64 (nowV x0 xs k).l], 27), (y, c, 80)] V ∧ Keep S w0 V
theorem toI_any {J : Nat → World → Prop} {x0 : Vl} {xs : List Vl} {m y B : Nat} {c : Array Value} {S : Nat → Prop} {w0 : World} (hJ : AnyFrom B J) (hy : y + 3 ≤ B) (h0 : ∀ k, S k → k < B ∨ w0.heap.size ≤ k) : AnyFrom B (ToI J x0 xs m y c S w0) := fun k V V' row ⟨hk, hj, ho, hkp⟩ hg hr =>
  ⟨hk, hJ _ V V' row hj hg hr, any_own (β := Unit) (H := fun _ => _) (fun _ p hp => by simp only [List.mem_cons, List.not_mem_nil, or_false] at hp; rcases hp with rfl | rfl | rfl <;> (dsimp only; omega)) () V V' row ho hg hr, any_keep (β := Unit) h0 () V V' row hkp hg hr⟩
theorem refV_yes {g : Kn} {x y z : Vl} (h : refOk g x y z = true) : refV g x y z = .tuple #[.agg #[.int .u64 (refK g x y z).l, .int .u64 (refK g x y z).lo, .int .u64 (refK g x y z).hi, .int .u64 (refK g x y z).a], .int .i64 0] := by unfold refV; rw [h]; rfl
theorem refV_no {g : Kn} {x y z : Vl} (h : refOk g x y z = false) : refV g x y z = .tuple #[.agg #[.int .u64 0, .int .u64 0, .int .u64 0, .int .u64 0], .int .i64 2] := by unfold refV; rw [h]; rfl
set_option maxHeartbeats 16000000 in
set_option maxRecDepth 20000 in
theorem total1_seq (b b2 : Nat) (A : Option Addr) (x0 : Vl) (xs : List Vl) (cap m : Nat) (w0 : World) (S : Nat → Prop) (hc0 : w0.cell? ⟨b, 0, none⟩ = some (.int .u64 x0.a)) (hc1 : w0.cell? ⟨b, 1, none⟩ = some (.int .u64 x0.b)) (hc2 : w0.cell? ⟨b, 2, none⟩ = some (.int .u64 x0.c)) (hc3 : w0.cell? ⟨b, 3, none⟩ = some (.int .u64 x0.d)) (hc4 : w0.cell? ⟨b, 4, none⟩ = some (.int .u64 x0.l))
    (hcl : w0.cell? ⟨b2, 0, none⟩ = some (.slice A xs.length cap)) (hS : SlAt w0 A (xs.flatMap Vl.cells)) (hcap : xs.length ≤ cap) (hn : xs.length ≤ 1000)
    (hb : S b) (hb2 : S b2) (hA : xs.flatMap Vl.cells ≠ [] → ∀ b' off, A = some ⟨b', off, none⟩ → S b') (hm : UptoR x0 xs m) :
    Seq Try.prog 32 #[.pointer (some ⟨b, 0, none⟩), .pointer (some ⟨b2, 0, none⟩)] encR (zsR x0 xs m) S w0 := by
  intro l J Jx W0 hW hJ hJx hY h0
  have hW' : Keep (fun k => S k ∧ k < w0.heap.size) w0 W0 := hW.mono (fun k hk => hk.1)
  have hzW := hW.size
  have hlb := World.block_lt_of_cell? w0 ⟨b, 0, none⟩ hc0
  have hWA := World.below_alloc W0 (.cells #[.func (.yield l) #[] #[]] 80)
  have d0 := kept hWA (hW.cell hc0 hb)
  have d1 := kept hWA (hW.cell hc1 hb)
  have d2 := kept hWA (hW.cell hc2 hb)
  have d3 := kept hWA (hW.cell hc3 hb)
  have d4 := kept hWA (hW.cell hc4 hb)
  have dl : ∀ o o2 o3 : Obj, (((W0.alloc o).alloc o2).alloc o3).cell? ⟨b2, 0, none⟩ = some (.slice A xs.length cap) := fun o o2 o3 => kept (World.below_alloc _ o3) (kept (World.below_alloc _ o2) (kept (World.below_alloc W0 o) (hW.cell hcl hb2)))
  have HC0 := Lib.hid (show w0.cell? ⟨b, 0, none⟩ = some (.int .u64 x0.a) ∧ w0.cell? ⟨b, 1, none⟩ = some (.int .u64 x0.b) ∧ w0.cell? ⟨b, 2, none⟩ = some (.int .u64 x0.c) ∧ w0.cell? ⟨b, 3, none⟩ = some (.int .u64 x0.d) ∧ w0.cell? ⟨b, 4, none⟩ = some (.int .u64 x0.l) from ⟨hc0, hc1, hc2, hc3, hc4⟩)
  have HS := Lib.hid hS
  have HY := Lib.hid hY
  have HJ := Lib.hid hJ
  have HX := Lib.hid hJx
  have HW := Lib.hid hW'
  have HM := Lib.hid hm
  have HGT := Lib.hid (fun k hk => gR_tame hm k hk)
  have HZ := Lib.hid (fun k (hk : k < m) => zsR_at (x0 := x0) (xs := xs) hk)
  have HAA := Lib.hid (fun V b S hc hS hb hA => vals1_seq b A xs cap V S hc hS hcap (Nat.le_trans hn (by decide)) hb hA)
  clear hY hJ hJx hS hW' hm hWA hc0 hc1 hc2 hc3 hc4 hcl
  generalize hln : xs.length = ln at *
  refine calls_marks Try.func32 rfl ?_
  simp only [Try.ntmps32, List.size_toArray, List.length_cons, List.length_nil, Nat.reduceAdd, Nat.reduceSub, Array.replicate_succ, Array.replicate_zero, List.push_toArray, List.append_toArray, List.nil_append, List.cons_append]
  go_wp2_with fail
  go_step3
  go_wp2_with fail
  refine wp_label ?_
  go_wp2_with fail
  refine (vals_any A ln cap _).mono ?_
  rintro e w2 ⟨rfl, rfl⟩
  clear dl
  go_wp2_with fail
  refine wp_name fun W2 hW2 => ?_
  have hz2 : W2.heap.size = W0.heap.size + 4 := by rw [hW2]; simp
  have hkW : Keep (fun k => S k ∧ k < w0.heap.size) w0 W2 := by rw [hW2]; exact (((HW.out.alloc _).alloc _).alloc _).alloc _
  have hj2 : J 0 W2 := by rw [hW2]; exact HJ.out.alloc _ (HJ.out.alloc _ (HJ.out.alloc _ (HJ.out.alloc _ h0)))
  have hO2 : Own [(W0.heap.size + 3, #[.slice A ln cap], 38), (W0.heap.size + 2, #[.int .u64 0, .int .u64 0, .int .u64 0, .int .u64 0], 37), (W0.heap.size + 1, #[.int .u64 x0.a, .int .u64 x0.b, .int .u64 x0.c, .int .u64 x0.d, .int .u64 x0.l], 27), (W0.heap.size, #[.func (.yield l) #[] #[]], 80)] W2 := by
    rw [hW2]; exact Own.new (Own.new (Own.new (Own.new (Own.nil W0) _ rfl) _ (by simp)) _ (by simp)) _ (by simp)
  have hvb := Own.cell hO2 0 rfl
  clear hW2 d0 d1 d2 d3 d4
  try rw [World.size_alloc, World.size_alloc, World.size_alloc]
  refine wp_each (w0 := W2) (xs := xs) (encs := valsEnc) (S := fun k => (S k ∧ k < w0.heap.size) ∨ k = W0.heap.size + 3) rfl (enters_of Try.func54 (by kernel_rfl) rfl)
    (HAA.out W2 (W0.heap.size + 3) _ (by rw [(hvb 0)]; rfl) (hkW.slAt HS.out (fun hne b' off h => by
      rcases HS.out with hz | ⟨b3, o3, h3, hl3, _⟩
      · exact absurd hz hne
      · rw [h3] at h; cases h; exact ⟨hA hne _ _ h3, hl3⟩)) (.inr rfl) (fun hne b' off h => by
      rcases HS.out with hz | ⟨b3, o3, h3, hl3, _⟩
      · exact absurd hz hne
      · rw [h3] at h; cases h; exact .inl ⟨hA hne _ _ h3, hl3⟩)) (fun k hk => by rcases hk with hk | hk <;> omega) (Keep.refl _ _) (fun _ _ => rfl)
    (ToI J x0 xs m W0.heap.size #[.func (.yield l) #[] #[]] (fun k => S k ∧ k < w0.heap.size) w0) (fun c _ V => c = .exit 0 ∧ (J m V ∨ ∃ j, j ≤ m ∧ Jx j V)) ?hI ?hIx ?h0 ?round ?done ?stop
  case hI => exact toI_any (HJ.out.mono (by omega)) (by omega) (fun k hk => by omega)
  case hIx =>
    exact fun c k V V' row ⟨h, hj⟩ hg hr => ⟨h, hj.imp (fun hj => HJ.out.mono (by omega) _ V V' row hj hg hr) (fun ⟨j, hjm, hj⟩ => ⟨j, hjm, HX.out.mono (by omega) _ V V' row hj hg hr⟩)⟩
  case h0 => exact ⟨Nat.zero_le _, hj2, Own.tl hO2, hkW⟩
  case round =>
    intro l' k x V hx hE hl'
    gi_wp2
    refine ⟨(Keep.refl _ _).alloc _, fun V' => ToI J x0 xs m W0.heap.size #[.func (.yield l) #[] #[]] (fun k => S k ∧ k < w0.heap.size) w0 k V' ∧ Blk V' V.heap.size #[.int .u64 x.a, .int .u64 x.b, .int .u64 x.c, .int .u64 x.d, .int .u64 x.l] 27, ?own, ⟨AnyFrom.alloc (B := W2.heap.size) (toI_any (HJ.out.mono (by omega)) (by omega) (fun k hk => by omega)) _ hE, heap_alloc_new _ _⟩, ?body⟩
    case own =>
      exact fun _ V V' row ⟨hE, hb⟩ hg hr => ⟨(toI_any (HJ.out.mono (by omega)) (by omega) (fun k hk => by omega)).from _ V V' row hE hg hr, ownFrom_blk (β := Unit) () V V' row hb hg hr⟩
    case body =>
      have hkl : k < ln := by rw [← hln]; exact (List.getElem?_eq_some_iff.1 hx).1
      have hVs : W0.heap.size + 2 < V.heap.size := hE.2.2.1.lt 0 rfl
      generalize V.heap.size = bx at *
      clear hE
      rintro w ⟨⟨hkm, hjV, hOV, hkV⟩, hbx⟩
      have hbxl := hbx.lt
      have e0 := hkV.cell HC0.out.1 ⟨hb, hlb⟩
      have e1 := hkV.cell HC0.out.2.1 ⟨hb, hlb⟩
      have e2 := hkV.cell HC0.out.2.2.1 ⟨hb, hlb⟩
      have e3 := hkV.cell HC0.out.2.2.2.1 ⟨hb, hlb⟩
      have e4 := hkV.cell HC0.out.2.2.2.2 ⟨hb, hlb⟩
      have HOW := Lib.hid (Own.cons hbx hOV)
      have HJV := Lib.hid hjV
      have HKV := Lib.hid hkV
      clear hjV hOV hkV hbx
      have hxc := atV_of hx
      have hRF := fun V => refund_any (gR x0 xs k) x0 (nowV x0 xs k) x V (HGT.out k hkm)
      have HNW := Lib.hid (show nowV x0 xs (k + 1) = x from hxc)
      by_cases hlt' : k < m
      · have hok := HM.out.2.1 k hlt'
        unfold okR at hok
        rw [hxc] at hok
        rw [refV_yes hok] at hRF
        have hg1 : gR x0 xs (k + 1) = refK (gR x0 xs k) x0 (nowV x0 xs k) x := by simp only [gR, hxc]
        rw [← hg1] at hRF
        obtain ⟨g1, HG⟩ : ∃ g1, gR x0 xs (k + 1) = g1 := ⟨_, rfl⟩
        rw [HG] at hRF
        have HG1 := Lib.hid HG
        have HRF := Lib.hid hRF
        clear HG hg1 hRF hok hxc
        generalize gR x0 xs k = g0 at *
        generalize nowV x0 xs k = n0 at *
        have O1 := HOW.out
        have c1x0 := Own.cell O1 0 rfl
        have f1x0 := Own.free O1 0 rfl
        have l1x0 := Own.lt O1 0 rfl
        have l1x0d0 := le_up 0 l1x0
        have l1x0d1 := le_up 1 l1x0
        simp only [upN] at l1x0d0 l1x0d1
        have c1x1 := Own.cell O1 1 rfl
        have f1x1 := Own.free O1 1 rfl
        have l1x1 := Own.lt O1 1 rfl
        have l1x1d0 := le_up 0 l1x1
        have l1x1d1 := le_up 1 l1x1
        simp only [upN] at l1x1d0 l1x1d1
        have c1x2 := Own.cell O1 2 rfl
        have f1x2 := Own.free O1 2 rfl
        have l1x2 := Own.lt O1 2 rfl
        have l1x2d0 := le_up 0 l1x2
        have l1x2d1 := le_up 1 l1x2
        simp only [upN] at l1x2d0 l1x2d1
        have c1x3 := Own.cell O1 3 rfl
        have f1x3 := Own.free O1 3 rfl
        have l1x3 := Own.lt O1 3 rfl
        have l1x3d0 := le_up 0 l1x3
        have l1x3d1 := le_up 1 l1x3
        simp only [upN] at l1x3d0 l1x3d1
        have HO1 := Lib.hid O1
        clear O1
        gi_wp2
        refine ⟨trivial, rfl, (callR _ (HRF.out _)).mono ?_⟩
        rintro e w2 ⟨rfl, hb2⟩
        have O2 := Own.grow' hb2 HO1.out
        try simp only [List.setIfInBounds_toArray, List.set_cons_zero, List.set_cons_succ] at O2
        have bw2 : Below w.heap.size w w2 := Below.trans (by go_grown) (Below.mono hb2 (by first | omega | (simp; done) | (simp; omega)))
        have zw2 := Below.size hb2
        try simp only [World.size_alloc, World.size_drew, World.size_setCell] at zw2
        have kk2 := Keep.below (Keep.refl (fun b => ((S b ∧ b < w0.heap.size) ∨ b = W0.heap.size + 3) ∨ W2.heap.size ≤ b) w) hb2
        have hwc2 : Below w.heap.size w w2 := Below.trans (by go_grown) (Below.mono hb2 (by first | omega | (simp; done) | (simp; omega)))
        clear c1x0 f1x0 l1x0 l1x0d0 l1x0d1 c1x1 f1x1 l1x1 l1x1d0 l1x1d1 c1x2 f1x2 l1x2 l1x2d0 l1x2d1 c1x3 f1x3 l1x3 l1x3d0 l1x3d1
        have c2x0 := Own.cell O2 0 rfl
        have f2x0 := Own.free O2 0 rfl
        have l2x0 := Own.lt O2 0 rfl
        have l2x0d0 := le_up 0 l2x0
        have l2x0d1 := le_up 1 l2x0
        simp only [upN] at l2x0d0 l2x0d1
        have a2x0 := fun o1 o2 o3 i => cell_al3 l2x0 o1 o2 o3 i
        have c2x1 := Own.cell O2 1 rfl
        have f2x1 := Own.free O2 1 rfl
        have l2x1 := Own.lt O2 1 rfl
        have l2x1d0 := le_up 0 l2x1
        have l2x1d1 := le_up 1 l2x1
        simp only [upN] at l2x1d0 l2x1d1
        have a2x1 := fun o1 o2 o3 i => cell_al3 l2x1 o1 o2 o3 i
        have c2x2 := Own.cell O2 2 rfl
        have f2x2 := Own.free O2 2 rfl
        have l2x2 := Own.lt O2 2 rfl
        have l2x2d0 := le_up 0 l2x2
        have l2x2d1 := le_up 1 l2x2
        simp only [upN] at l2x2d0 l2x2d1
        have a2x2 := fun o1 o2 o3 i => cell_al3 l2x2 o1 o2 o3 i
        have c2x3 := Own.cell O2 3 rfl
        have f2x3 := Own.free O2 3 rfl
        have l2x3 := Own.lt O2 3 rfl
        have l2x3d0 := le_up 0 l2x3
        have l2x3d1 := le_up 1 l2x3
        simp only [upN] at l2x3d0 l2x3d1
        have a2x3 := fun o1 o2 o3 i => cell_al3 l2x3 o1 o2 o3 i
        have HO2 := Lib.hid O2
        clear O2 hb2
        gi_wp2
        apply wpIn_mid
        · gi_region
          all_goals exact ⟨rfl, rfl, rfl⟩
        have q0 : J k w2 := HJ.out.grow HJV.out hwc2
        have p0 : Keep (fun b => ((S b ∧ b < w0.heap.size) ∨ b = W0.heap.size + 3) ∨ W2.heap.size ≤ b) w w2 := kk2
        have o0 : Own [(bx, #[.int .u64 x.a, .int .u64 x.b, .int .u64 x.c, .int .u64 x.d, .int .u64 x.l], 27), (W0.heap.size + 2, #[.int .u64 g0.l, .int .u64 g0.lo, .int .u64 g0.hi, .int .u64 g0.a], 37), (W0.heap.size + 1, #[.int .u64 n0.a, .int .u64 n0.b, .int .u64 n0.c, .int .u64 n0.d, .int .u64 n0.l], 27), (W0.heap.size, #[.func (.yield l) #[] #[]], 80)] w2 := HO2.out
        have q1 : J k (w2.setCell ⟨W0.heap.size + 1 + 1, 0, none⟩ (.int .u64 g1.l)) := HJ.out.setCell (b := W0.heap.size + 1 + 1) _ _ q0 (by omega)
        have p1 : Keep (fun b => ((S b ∧ b < w0.heap.size) ∨ b = W0.heap.size + 3) ∨ W2.heap.size ≤ b) w (w2.setCell ⟨W0.heap.size + 1 + 1, 0, none⟩ (.int .u64 g1.l)) := Keep.setCell p0 _ _ (.inl (by rintro ((⟨_, h⟩ | h) | h) <;> (dsimp only at h; omega)))
        have o1 : Own [(bx, #[.int .u64 x.a, .int .u64 x.b, .int .u64 x.c, .int .u64 x.d, .int .u64 x.l], 27), (W0.heap.size + 2, #[.int .u64 g1.l, .int .u64 g0.lo, .int .u64 g0.hi, .int .u64 g0.a], 37), (W0.heap.size + 1, #[.int .u64 n0.a, .int .u64 n0.b, .int .u64 n0.c, .int .u64 n0.d, .int .u64 n0.l], 27), (W0.heap.size, #[.func (.yield l) #[] #[]], 80)] (w2.setCell ⟨W0.heap.size + 1 + 1, 0, none⟩ (.int .u64 g1.l)) := by
          have := Own.set (o := 0) (v := .int .u64 g1.l) o0 1 rfl (Ne1.cons (by first | omega | (simp; omega)) (Ne1.cons (by first | omega | (simp; omega)) (Ne1.cons (by first | omega | (simp; omega)) Ne1.nil)))
          simpa only [List.setIfInBounds_toArray, List.set_cons_zero, List.set_cons_succ] using this
        clear q0 p0 o0
        have q2 : J k ((w2.setCell ⟨W0.heap.size + 1 + 1, 0, none⟩ (.int .u64 g1.l)).setCell ⟨W0.heap.size + 1 + 1, 1, none⟩ (.int .u64 g1.lo)) := HJ.out.setCell (b := W0.heap.size + 1 + 1) _ _ q1 (by omega)
        have p2 : Keep (fun b => ((S b ∧ b < w0.heap.size) ∨ b = W0.heap.size + 3) ∨ W2.heap.size ≤ b) w ((w2.setCell ⟨W0.heap.size + 1 + 1, 0, none⟩ (.int .u64 g1.l)).setCell ⟨W0.heap.size + 1 + 1, 1, none⟩ (.int .u64 g1.lo)) := Keep.setCell p1 _ _ (.inl (by rintro ((⟨_, h⟩ | h) | h) <;> (dsimp only at h; omega)))
        have o2 : Own [(bx, #[.int .u64 x.a, .int .u64 x.b, .int .u64 x.c, .int .u64 x.d, .int .u64 x.l], 27), (W0.heap.size + 2, #[.int .u64 g1.l, .int .u64 g1.lo, .int .u64 g0.hi, .int .u64 g0.a], 37), (W0.heap.size + 1, #[.int .u64 n0.a, .int .u64 n0.b, .int .u64 n0.c, .int .u64 n0.d, .int .u64 n0.l], 27), (W0.heap.size, #[.func (.yield l) #[] #[]], 80)] ((w2.setCell ⟨W0.heap.size + 1 + 1, 0, none⟩ (.int .u64 g1.l)).setCell ⟨W0.heap.size + 1 + 1, 1, none⟩ (.int .u64 g1.lo)) := by
          have := Own.set (o := 1) (v := .int .u64 g1.lo) o1 1 rfl (Ne1.cons (by first | omega | (simp; omega)) (Ne1.cons (by first | omega | (simp; omega)) (Ne1.cons (by first | omega | (simp; omega)) Ne1.nil)))
          simpa only [List.setIfInBounds_toArray, List.set_cons_zero, List.set_cons_succ] using this
        clear q1 p1 o1
        have q3 : J k (((w2.setCell ⟨W0.heap.size + 1 + 1, 0, none⟩ (.int .u64 g1.l)).setCell ⟨W0.heap.size + 1 + 1, 1, none⟩ (.int .u64 g1.lo)).setCell ⟨W0.heap.size + 1 + 1, 2, none⟩ (.int .u64 g1.hi)) := HJ.out.setCell (b := W0.heap.size + 1 + 1) _ _ q2 (by omega)
        have p3 : Keep (fun b => ((S b ∧ b < w0.heap.size) ∨ b = W0.heap.size + 3) ∨ W2.heap.size ≤ b) w (((w2.setCell ⟨W0.heap.size + 1 + 1, 0, none⟩ (.int .u64 g1.l)).setCell ⟨W0.heap.size + 1 + 1, 1, none⟩ (.int .u64 g1.lo)).setCell ⟨W0.heap.size + 1 + 1, 2, none⟩ (.int .u64 g1.hi)) := Keep.setCell p2 _ _ (.inl (by rintro ((⟨_, h⟩ | h) | h) <;> (dsimp only at h; omega)))
        have o3 : Own [(bx, #[.int .u64 x.a, .int .u64 x.b, .int .u64 x.c, .int .u64 x.d, .int .u64 x.l], 27), (W0.heap.size + 2, #[.int .u64 g1.l, .int .u64 g1.lo, .int .u64 g1.hi, .int .u64 g0.a], 37), (W0.heap.size + 1, #[.int .u64 n0.a, .int .u64 n0.b, .int .u64 n0.c, .int .u64 n0.d, .int .u64 n0.l], 27), (W0.heap.size, #[.func (.yield l) #[] #[]], 80)] (((w2.setCell ⟨W0.heap.size + 1 + 1, 0, none⟩ (.int .u64 g1.l)).setCell ⟨W0.heap.size + 1 + 1, 1, none⟩ (.int .u64 g1.lo)).setCell ⟨W0.heap.size + 1 + 1, 2, none⟩ (.int .u64 g1.hi)) := by
          have := Own.set (o := 2) (v := .int .u64 g1.hi) o2 1 rfl (Ne1.cons (by first | omega | (simp; omega)) (Ne1.cons (by first | omega | (simp; omega)) (Ne1.cons (by first | omega | (simp; omega)) Ne1.nil)))
          simpa only [List.setIfInBounds_toArray, List.set_cons_zero, List.set_cons_succ] using this
        clear q2 p2 o2
        have q4 : J k ((((w2.setCell ⟨W0.heap.size + 1 + 1, 0, none⟩ (.int .u64 g1.l)).setCell ⟨W0.heap.size + 1 + 1, 1, none⟩ (.int .u64 g1.lo)).setCell ⟨W0.heap.size + 1 + 1, 2, none⟩ (.int .u64 g1.hi)).setCell ⟨W0.heap.size + 1 + 1, 3, none⟩ (.int .u64 g1.a)) := HJ.out.setCell (b := W0.heap.size + 1 + 1) _ _ q3 (by omega)
        have p4 : Keep (fun b => ((S b ∧ b < w0.heap.size) ∨ b = W0.heap.size + 3) ∨ W2.heap.size ≤ b) w ((((w2.setCell ⟨W0.heap.size + 1 + 1, 0, none⟩ (.int .u64 g1.l)).setCell ⟨W0.heap.size + 1 + 1, 1, none⟩ (.int .u64 g1.lo)).setCell ⟨W0.heap.size + 1 + 1, 2, none⟩ (.int .u64 g1.hi)).setCell ⟨W0.heap.size + 1 + 1, 3, none⟩ (.int .u64 g1.a)) := Keep.setCell p3 _ _ (.inl (by rintro ((⟨_, h⟩ | h) | h) <;> (dsimp only at h; omega)))
        have o4 : Own [(bx, #[.int .u64 x.a, .int .u64 x.b, .int .u64 x.c, .int .u64 x.d, .int .u64 x.l], 27), (W0.heap.size + 2, #[.int .u64 g1.l, .int .u64 g1.lo, .int .u64 g1.hi, .int .u64 g1.a], 37), (W0.heap.size + 1, #[.int .u64 n0.a, .int .u64 n0.b, .int .u64 n0.c, .int .u64 n0.d, .int .u64 n0.l], 27), (W0.heap.size, #[.func (.yield l) #[] #[]], 80)] ((((w2.setCell ⟨W0.heap.size + 1 + 1, 0, none⟩ (.int .u64 g1.l)).setCell ⟨W0.heap.size + 1 + 1, 1, none⟩ (.int .u64 g1.lo)).setCell ⟨W0.heap.size + 1 + 1, 2, none⟩ (.int .u64 g1.hi)).setCell ⟨W0.heap.size + 1 + 1, 3, none⟩ (.int .u64 g1.a)) := by
          have := Own.set (o := 3) (v := .int .u64 g1.a) o3 1 rfl (Ne1.cons (by first | omega | (simp; omega)) (Ne1.cons (by first | omega | (simp; omega)) (Ne1.cons (by first | omega | (simp; omega)) Ne1.nil)))
          simpa only [List.setIfInBounds_toArray, List.set_cons_zero, List.set_cons_succ] using this
        clear q3 p3 o3
        have q5 : J k (((((w2.setCell ⟨W0.heap.size + 1 + 1, 0, none⟩ (.int .u64 g1.l)).setCell ⟨W0.heap.size + 1 + 1, 1, none⟩ (.int .u64 g1.lo)).setCell ⟨W0.heap.size + 1 + 1, 2, none⟩ (.int .u64 g1.hi)).setCell ⟨W0.heap.size + 1 + 1, 3, none⟩ (.int .u64 g1.a)).setCell ⟨W0.heap.size + 1, 0, none⟩ (.int .u64 x.a)) := HJ.out.setCell (b := W0.heap.size + 1) _ _ q4 (by omega)
        have p5 : Keep (fun b => ((S b ∧ b < w0.heap.size) ∨ b = W0.heap.size + 3) ∨ W2.heap.size ≤ b) w (((((w2.setCell ⟨W0.heap.size + 1 + 1, 0, none⟩ (.int .u64 g1.l)).setCell ⟨W0.heap.size + 1 + 1, 1, none⟩ (.int .u64 g1.lo)).setCell ⟨W0.heap.size + 1 + 1, 2, none⟩ (.int .u64 g1.hi)).setCell ⟨W0.heap.size + 1 + 1, 3, none⟩ (.int .u64 g1.a)).setCell ⟨W0.heap.size + 1, 0, none⟩ (.int .u64 x.a)) := Keep.setCell p4 _ _ (.inl (by rintro ((⟨_, h⟩ | h) | h) <;> (dsimp only at h; omega)))
        have o5 : Own [(bx, #[.int .u64 x.a, .int .u64 x.b, .int .u64 x.c, .int .u64 x.d, .int .u64 x.l], 27), (W0.heap.size + 2, #[.int .u64 g1.l, .int .u64 g1.lo, .int .u64 g1.hi, .int .u64 g1.a], 37), (W0.heap.size + 1, #[.int .u64 x.a, .int .u64 n0.b, .int .u64 n0.c, .int .u64 n0.d, .int .u64 n0.l], 27), (W0.heap.size, #[.func (.yield l) #[] #[]], 80)] (((((w2.setCell ⟨W0.heap.size + 1 + 1, 0, none⟩ (.int .u64 g1.l)).setCell ⟨W0.heap.size + 1 + 1, 1, none⟩ (.int .u64 g1.lo)).setCell ⟨W0.heap.size + 1 + 1, 2, none⟩ (.int .u64 g1.hi)).setCell ⟨W0.heap.size + 1 + 1, 3, none⟩ (.int .u64 g1.a)).setCell ⟨W0.heap.size + 1, 0, none⟩ (.int .u64 x.a)) := by
          have := Own.set (o := 0) (v := .int .u64 x.a) o4 2 rfl (Ne1.cons (by first | omega | (simp; omega)) (Ne1.cons (by first | omega | (simp; omega)) (Ne1.cons (by first | omega | (simp; omega)) Ne1.nil)))
          simpa only [List.setIfInBounds_toArray, List.set_cons_zero, List.set_cons_succ] using this
        clear q4 p4 o4
        have q6 : J k ((((((w2.setCell ⟨W0.heap.size + 1 + 1, 0, none⟩ (.int .u64 g1.l)).setCell ⟨W0.heap.size + 1 + 1, 1, none⟩ (.int .u64 g1.lo)).setCell ⟨W0.heap.size + 1 + 1, 2, none⟩ (.int .u64 g1.hi)).setCell ⟨W0.heap.size + 1 + 1, 3, none⟩ (.int .u64 g1.a)).setCell ⟨W0.heap.size + 1, 0, none⟩ (.int .u64 x.a)).setCell ⟨W0.heap.size + 1, 1, none⟩ (.int .u64 x.b)) := HJ.out.setCell (b := W0.heap.size + 1) _ _ q5 (by omega)
        have p6 : Keep (fun b => ((S b ∧ b < w0.heap.size) ∨ b = W0.heap.size + 3) ∨ W2.heap.size ≤ b) w ((((((w2.setCell ⟨W0.heap.size + 1 + 1, 0, none⟩ (.int .u64 g1.l)).setCell ⟨W0.heap.size + 1 + 1, 1, none⟩ (.int .u64 g1.lo)).setCell ⟨W0.heap.size + 1 + 1, 2, none⟩ (.int .u64 g1.hi)).setCell ⟨W0.heap.size + 1 + 1, 3, none⟩ (.int .u64 g1.a)).setCell ⟨W0.heap.size + 1, 0, none⟩ (.int .u64 x.a)).setCell ⟨W0.heap.size + 1, 1, none⟩ (.int .u64 x.b)) := Keep.setCell p5 _ _ (.inl (by rintro ((⟨_, h⟩ | h) | h) <;> (dsimp only at h; omega)))
        have o6 : Own [(bx, #[.int .u64 x.a, .int .u64 x.b, .int .u64 x.c, .int .u64 x.d, .int .u64 x.l], 27), (W0.heap.size + 2, #[.int .u64 g1.l, .int .u64 g1.lo, .int .u64 g1.hi, .int .u64 g1.a], 37), (W0.heap.size + 1, #[.int .u64 x.a, .int .u64 x.b, .int .u64 n0.c, .int .u64 n0.d, .int .u64 n0.l], 27), (W0.heap.size, #[.func (.yield l) #[] #[]], 80)] ((((((w2.setCell ⟨W0.heap.size + 1 + 1, 0, none⟩ (.int .u64 g1.l)).setCell ⟨W0.heap.size + 1 + 1, 1, none⟩ (.int .u64 g1.lo)).setCell ⟨W0.heap.size + 1 + 1, 2, none⟩ (.int .u64 g1.hi)).setCell ⟨W0.heap.size + 1 + 1, 3, none⟩ (.int .u64 g1.a)).setCell ⟨W0.heap.size + 1, 0, none⟩ (.int .u64 x.a)).setCell ⟨W0.heap.size + 1, 1, none⟩ (.int .u64 x.b)) := by
          have := Own.set (o := 1) (v := .int .u64 x.b) o5 2 rfl (Ne1.cons (by first | omega | (simp; omega)) (Ne1.cons (by first | omega | (simp; omega)) (Ne1.cons (by first | omega | (simp; omega)) Ne1.nil)))
          simpa only [List.setIfInBounds_toArray, List.set_cons_zero, List.set_cons_succ] using this
        clear q5 p5 o5
        have q7 : J k (((((((w2.setCell ⟨W0.heap.size + 1 + 1, 0, none⟩ (.int .u64 g1.l)).setCell ⟨W0.heap.size + 1 + 1, 1, none⟩ (.int .u64 g1.lo)).setCell ⟨W0.heap.size + 1 + 1, 2, none⟩ (.int .u64 g1.hi)).setCell ⟨W0.heap.size + 1 + 1, 3, none⟩ (.int .u64 g1.a)).setCell ⟨W0.heap.size + 1, 0, none⟩ (.int .u64 x.a)).setCell ⟨W0.heap.size + 1, 1, none⟩ (.int .u64 x.b)).setCell ⟨W0.heap.size + 1, 2, none⟩ (.int .u64 x.c)) := HJ.out.setCell (b := W0.heap.size + 1) _ _ q6 (by omega)
        have p7 : Keep (fun b => ((S b ∧ b < w0.heap.size) ∨ b = W0.heap.size + 3) ∨ W2.heap.size ≤ b) w (((((((w2.setCell ⟨W0.heap.size + 1 + 1, 0, none⟩ (.int .u64 g1.l)).setCell ⟨W0.heap.size + 1 + 1, 1, none⟩ (.int .u64 g1.lo)).setCell ⟨W0.heap.size + 1 + 1, 2, none⟩ (.int .u64 g1.hi)).setCell ⟨W0.heap.size + 1 + 1, 3, none⟩ (.int .u64 g1.a)).setCell ⟨W0.heap.size + 1, 0, none⟩ (.int .u64 x.a)).setCell ⟨W0.heap.size + 1, 1, none⟩ (.int .u64 x.b)).setCell ⟨W0.heap.size + 1, 2, none⟩ (.int .u64 x.c)) := Keep.setCell p6 _ _ (.inl (by rintro ((⟨_, h⟩ | h) | h) <;> (dsimp only at h; omega)))
        have o7 : Own [(bx, #[.int .u64 x.a, .int .u64 x.b, .int .u64 x.c, .int .u64 x.d, .int .u64 x.l], 27), (W0.heap.size + 2, #[.int .u64 g1.l, .int .u64 g1.lo, .int .u64 g1.hi, .int .u64 g1.a], 37), (W0.heap.size + 1, #[.int .u64 x.a, .int .u64 x.b, .int .u64 x.c, .int .u64 n0.d, .int .u64 n0.l], 27), (W0.heap.size, #[.func (.yield l) #[] #[]], 80)] (((((((w2.setCell ⟨W0.heap.size + 1 + 1, 0, none⟩ (.int .u64 g1.l)).setCell ⟨W0.heap.size + 1 + 1, 1, none⟩ (.int .u64 g1.lo)).setCell ⟨W0.heap.size + 1 + 1, 2, none⟩ (.int .u64 g1.hi)).setCell ⟨W0.heap.size + 1 + 1, 3, none⟩ (.int .u64 g1.a)).setCell ⟨W0.heap.size + 1, 0, none⟩ (.int .u64 x.a)).setCell ⟨W0.heap.size + 1, 1, none⟩ (.int .u64 x.b)).setCell ⟨W0.heap.size + 1, 2, none⟩ (.int .u64 x.c)) := by
          have := Own.set (o := 2) (v := .int .u64 x.c) o6 2 rfl (Ne1.cons (by first | omega | (simp; omega)) (Ne1.cons (by first | omega | (simp; omega)) (Ne1.cons (by first | omega | (simp; omega)) Ne1.nil)))
          simpa only [List.setIfInBounds_toArray, List.set_cons_zero, List.set_cons_succ] using this
        clear q6 p6 o6
        have q8 : J k ((((((((w2.setCell ⟨W0.heap.size + 1 + 1, 0, none⟩ (.int .u64 g1.l)).setCell ⟨W0.heap.size + 1 + 1, 1, none⟩ (.int .u64 g1.lo)).setCell ⟨W0.heap.size + 1 + 1, 2, none⟩ (.int .u64 g1.hi)).setCell ⟨W0.heap.size + 1 + 1, 3, none⟩ (.int .u64 g1.a)).setCell ⟨W0.heap.size + 1, 0, none⟩ (.int .u64 x.a)).setCell ⟨W0.heap.size + 1, 1, none⟩ (.int .u64 x.b)).setCell ⟨W0.heap.size + 1, 2, none⟩ (.int .u64 x.c)).setCell ⟨W0.heap.size + 1, 3, none⟩ (.int .u64 x.d)) := HJ.out.setCell (b := W0.heap.size + 1) _ _ q7 (by omega)
        have p8 : Keep (fun b => ((S b ∧ b < w0.heap.size) ∨ b = W0.heap.size + 3) ∨ W2.heap.size ≤ b) w ((((((((w2.setCell ⟨W0.heap.size + 1 + 1, 0, none⟩ (.int .u64 g1.l)).setCell ⟨W0.heap.size + 1 + 1, 1, none⟩ (.int .u64 g1.lo)).setCell ⟨W0.heap.size + 1 + 1, 2, none⟩ (.int .u64 g1.hi)).setCell ⟨W0.heap.size + 1 + 1, 3, none⟩ (.int .u64 g1.a)).setCell ⟨W0.heap.size + 1, 0, none⟩ (.int .u64 x.a)).setCell ⟨W0.heap.size + 1, 1, none⟩ (.int .u64 x.b)).setCell ⟨W0.heap.size + 1, 2, none⟩ (.int .u64 x.c)).setCell ⟨W0.heap.size + 1, 3, none⟩ (.int .u64 x.d)) := Keep.setCell p7 _ _ (.inl (by rintro ((⟨_, h⟩ | h) | h) <;> (dsimp only at h; omega)))
        have o8 : Own [(bx, #[.int .u64 x.a, .int .u64 x.b, .int .u64 x.c, .int .u64 x.d, .int .u64 x.l], 27), (W0.heap.size + 2, #[.int .u64 g1.l, .int .u64 g1.lo, .int .u64 g1.hi, .int .u64 g1.a], 37), (W0.heap.size + 1, #[.int .u64 x.a, .int .u64 x.b, .int .u64 x.c, .int .u64 x.d, .int .u64 n0.l], 27), (W0.heap.size, #[.func (.yield l) #[] #[]], 80)] ((((((((w2.setCell ⟨W0.heap.size + 1 + 1, 0, none⟩ (.int .u64 g1.l)).setCell ⟨W0.heap.size + 1 + 1, 1, none⟩ (.int .u64 g1.lo)).setCell ⟨W0.heap.size + 1 + 1, 2, none⟩ (.int .u64 g1.hi)).setCell ⟨W0.heap.size + 1 + 1, 3, none⟩ (.int .u64 g1.a)).setCell ⟨W0.heap.size + 1, 0, none⟩ (.int .u64 x.a)).setCell ⟨W0.heap.size + 1, 1, none⟩ (.int .u64 x.b)).setCell ⟨W0.heap.size + 1, 2, none⟩ (.int .u64 x.c)).setCell ⟨W0.heap.size + 1, 3, none⟩ (.int .u64 x.d)) := by
          have := Own.set (o := 3) (v := .int .u64 x.d) o7 2 rfl (Ne1.cons (by first | omega | (simp; omega)) (Ne1.cons (by first | omega | (simp; omega)) (Ne1.cons (by first | omega | (simp; omega)) Ne1.nil)))
          simpa only [List.setIfInBounds_toArray, List.set_cons_zero, List.set_cons_succ] using this
        clear q7 p7 o7
        have q9 : J k (((((((((w2.setCell ⟨W0.heap.size + 1 + 1, 0, none⟩ (.int .u64 g1.l)).setCell ⟨W0.heap.size + 1 + 1, 1, none⟩ (.int .u64 g1.lo)).setCell ⟨W0.heap.size + 1 + 1, 2, none⟩ (.int .u64 g1.hi)).setCell ⟨W0.heap.size + 1 + 1, 3, none⟩ (.int .u64 g1.a)).setCell ⟨W0.heap.size + 1, 0, none⟩ (.int .u64 x.a)).setCell ⟨W0.heap.size + 1, 1, none⟩ (.int .u64 x.b)).setCell ⟨W0.heap.size + 1, 2, none⟩ (.int .u64 x.c)).setCell ⟨W0.heap.size + 1, 3, none⟩ (.int .u64 x.d)).setCell ⟨W0.heap.size + 1, 4, none⟩ (.int .u64 x.l)) := HJ.out.setCell (b := W0.heap.size + 1) _ _ q8 (by omega)
        have p9 : Keep (fun b => ((S b ∧ b < w0.heap.size) ∨ b = W0.heap.size + 3) ∨ W2.heap.size ≤ b) w (((((((((w2.setCell ⟨W0.heap.size + 1 + 1, 0, none⟩ (.int .u64 g1.l)).setCell ⟨W0.heap.size + 1 + 1, 1, none⟩ (.int .u64 g1.lo)).setCell ⟨W0.heap.size + 1 + 1, 2, none⟩ (.int .u64 g1.hi)).setCell ⟨W0.heap.size + 1 + 1, 3, none⟩ (.int .u64 g1.a)).setCell ⟨W0.heap.size + 1, 0, none⟩ (.int .u64 x.a)).setCell ⟨W0.heap.size + 1, 1, none⟩ (.int .u64 x.b)).setCell ⟨W0.heap.size + 1, 2, none⟩ (.int .u64 x.c)).setCell ⟨W0.heap.size + 1, 3, none⟩ (.int .u64 x.d)).setCell ⟨W0.heap.size + 1, 4, none⟩ (.int .u64 x.l)) := Keep.setCell p8 _ _ (.inl (by rintro ((⟨_, h⟩ | h) | h) <;> (dsimp only at h; omega)))
        have o9 : Own [(bx, #[.int .u64 x.a, .int .u64 x.b, .int .u64 x.c, .int .u64 x.d, .int .u64 x.l], 27), (W0.heap.size + 2, #[.int .u64 g1.l, .int .u64 g1.lo, .int .u64 g1.hi, .int .u64 g1.a], 37), (W0.heap.size + 1, #[.int .u64 x.a, .int .u64 x.b, .int .u64 x.c, .int .u64 x.d, .int .u64 x.l], 27), (W0.heap.size, #[.func (.yield l) #[] #[]], 80)] (((((((((w2.setCell ⟨W0.heap.size + 1 + 1, 0, none⟩ (.int .u64 g1.l)).setCell ⟨W0.heap.size + 1 + 1, 1, none⟩ (.int .u64 g1.lo)).setCell ⟨W0.heap.size + 1 + 1, 2, none⟩ (.int .u64 g1.hi)).setCell ⟨W0.heap.size + 1 + 1, 3, none⟩ (.int .u64 g1.a)).setCell ⟨W0.heap.size + 1, 0, none⟩ (.int .u64 x.a)).setCell ⟨W0.heap.size + 1, 1, none⟩ (.int .u64 x.b)).setCell ⟨W0.heap.size + 1, 2, none⟩ (.int .u64 x.c)).setCell ⟨W0.heap.size + 1, 3, none⟩ (.int .u64 x.d)).setCell ⟨W0.heap.size + 1, 4, none⟩ (.int .u64 x.l)) := by
          have := Own.set (o := 4) (v := .int .u64 x.l) o8 2 rfl (Ne1.cons (by first | omega | (simp; omega)) (Ne1.cons (by first | omega | (simp; omega)) (Ne1.cons (by first | omega | (simp; omega)) Ne1.nil)))
          simpa only [List.setIfInBounds_toArray, List.set_cons_zero, List.set_cons_succ] using this
        clear q8 p8 o8
        have qa := HJ.out.alloc (.cells #[.int .u64 g1.l, .int .u64 g1.lo, .int .u64 g1.hi, .int .u64 g1.a] 37) q9
        have pa := Keep.alloc p9 (.cells #[.int .u64 g1.l, .int .u64 g1.lo, .int .u64 g1.hi, .int .u64 g1.a] 37)
        have oa := Own.grow o9 (World.below_alloc _ (.cells #[.int .u64 g1.l, .int .u64 g1.lo, .int .u64 g1.hi, .int .u64 g1.a] 37))
        have qd : J k (((((((((((w2.setCell ⟨W0.heap.size + 1 + 1, 0, none⟩ (.int .u64 g1.l)).setCell ⟨W0.heap.size + 1 + 1, 1, none⟩ (.int .u64 g1.lo)).setCell ⟨W0.heap.size + 1 + 1, 2, none⟩ (.int .u64 g1.hi)).setCell ⟨W0.heap.size + 1 + 1, 3, none⟩ (.int .u64 g1.a)).setCell ⟨W0.heap.size + 1, 0, none⟩ (.int .u64 x.a)).setCell ⟨W0.heap.size + 1, 1, none⟩ (.int .u64 x.b)).setCell ⟨W0.heap.size + 1, 2, none⟩ (.int .u64 x.c)).setCell ⟨W0.heap.size + 1, 3, none⟩ (.int .u64 x.d)).setCell ⟨W0.heap.size + 1, 4, none⟩ (.int .u64 x.l)).alloc (.cells #[.int .u64 g1.l, .int .u64 g1.lo, .int .u64 g1.hi, .int .u64 g1.a] 37)).drew) := HJ.out.grow qa ((Below.refl _ _).drew)
        have pd : Keep (fun b => ((S b ∧ b < w0.heap.size) ∨ b = W0.heap.size + 3) ∨ W2.heap.size ≤ b) w (((((((((((w2.setCell ⟨W0.heap.size + 1 + 1, 0, none⟩ (.int .u64 g1.l)).setCell ⟨W0.heap.size + 1 + 1, 1, none⟩ (.int .u64 g1.lo)).setCell ⟨W0.heap.size + 1 + 1, 2, none⟩ (.int .u64 g1.hi)).setCell ⟨W0.heap.size + 1 + 1, 3, none⟩ (.int .u64 g1.a)).setCell ⟨W0.heap.size + 1, 0, none⟩ (.int .u64 x.a)).setCell ⟨W0.heap.size + 1, 1, none⟩ (.int .u64 x.b)).setCell ⟨W0.heap.size + 1, 2, none⟩ (.int .u64 x.c)).setCell ⟨W0.heap.size + 1, 3, none⟩ (.int .u64 x.d)).setCell ⟨W0.heap.size + 1, 4, none⟩ (.int .u64 x.l)).alloc (.cells #[.int .u64 g1.l, .int .u64 g1.lo, .int .u64 g1.hi, .int .u64 g1.a] 37)).drew) := Keep.drew pa
        have od : Own _ (((((((((((w2.setCell ⟨W0.heap.size + 1 + 1, 0, none⟩ (.int .u64 g1.l)).setCell ⟨W0.heap.size + 1 + 1, 1, none⟩ (.int .u64 g1.lo)).setCell ⟨W0.heap.size + 1 + 1, 2, none⟩ (.int .u64 g1.hi)).setCell ⟨W0.heap.size + 1 + 1, 3, none⟩ (.int .u64 g1.a)).setCell ⟨W0.heap.size + 1, 0, none⟩ (.int .u64 x.a)).setCell ⟨W0.heap.size + 1, 1, none⟩ (.int .u64 x.b)).setCell ⟨W0.heap.size + 1, 2, none⟩ (.int .u64 x.c)).setCell ⟨W0.heap.size + 1, 3, none⟩ (.int .u64 x.d)).setCell ⟨W0.heap.size + 1, 4, none⟩ (.int .u64 x.l)).alloc (.cells #[.int .u64 g1.l, .int .u64 g1.lo, .int .u64 g1.hi, .int .u64 g1.a] 37)).drew) := Own.drew oa
        generalize ((((((((((w2.setCell ⟨W0.heap.size + 1 + 1, 0, none⟩ (.int .u64 g1.l)).setCell ⟨W0.heap.size + 1 + 1, 1, none⟩ (.int .u64 g1.lo)).setCell ⟨W0.heap.size + 1 + 1, 2, none⟩ (.int .u64 g1.hi)).setCell ⟨W0.heap.size + 1 + 1, 3, none⟩ (.int .u64 g1.a)).setCell ⟨W0.heap.size + 1, 0, none⟩ (.int .u64 x.a)).setCell ⟨W0.heap.size + 1, 1, none⟩ (.int .u64 x.b)).setCell ⟨W0.heap.size + 1, 2, none⟩ (.int .u64 x.c)).setCell ⟨W0.heap.size + 1, 3, none⟩ (.int .u64 x.d)).setCell ⟨W0.heap.size + 1, 4, none⟩ (.int .u64 x.l)).alloc (.cells #[.int .u64 g1.l, .int .u64 g1.lo, .int .u64 g1.hi, .int .u64 g1.a] 37)).drew = V3 at qd pd od ⊢
        have hj3 := qd
        have kp3 := pd
        have ow3 := Own.tl od
        clear q9 p9 o9 qa pa oa qd pd od
        have cy := Own.cell ow3 2 rfl
        have cg := Own.cell ow3 0 rfl
        have OW3 := Lib.hid ow3
        have KP3 := Lib.hid kp3
        clear ow3 kp3 c2x0 f2x0 l2x0 l2x0d0 l2x0d1 a2x0 c2x1 f2x1 l2x1 l2x1d0 l2x1d1 a2x1 c2x2 f2x2 l2x2 l2x2d0 l2x2d1 a2x2 c2x3 f2x3 l2x3 l2x3d0 l2x3d1 a2x3
        obtain ⟨fn, tmps, assign, body, hyy, hR⟩ := HY.out k _ V3 (HZ.out k hlt') hj3
        try simp only [encR] at hyy
        rw [HG1.out] at hyy
        gi_wp2
        refine ⟨rfl, (show RoundIn (Fence.wide.inRound l') 0 _ _ _ _ _ _ _ _ from hR).mono ?_⟩
        rintro e V4 (⟨rfl, hJ4, hk4⟩ | ⟨rfl, hJx4, hk4⟩)
        · gi_wp2
          have hk5 : Keep (fun b => ((S b ∧ b < w0.heap.size) ∨ b = W0.heap.size + 3) ∨ W2.heap.size ≤ b) V3 V4 := hk4.mono (fun q hq => by rcases hq with (hq | hq) | hq <;> first | exact .inl hq.1 | exact .inr (by omega))
          have hk6 : Keep (fun b => S b ∧ b < w0.heap.size) V3 V4 := hk4.mono (fun q hq => .inl hq.1)
          have hk7 : Keep (fun b => S b ∧ b < w0.heap.size) w V3 := KP3.out.mono (fun q hq => .inl (.inl hq))
          exact ⟨KP3.out.trans hk5, by omega, hJ4, by rw [HG1.out, HNW.out]; exact Own.keep hk4 OW3.out (by simp only [List.mem_cons, List.not_mem_nil, or_false, forall_eq, forall_eq_or_imp]; exact ⟨.inr (by omega), .inr (by omega), .inr (Nat.le_refl _)⟩), HKV.out.trans (hk7.trans hk6)⟩
        · gi_wp2
          have hk5 : Keep (fun b => W2.heap.size ≤ b) V3 V4 := hk4.mono (fun q hq => by omega)
          exact ⟨(KP3.out.mono (fun q hq => .inr hq)).trans hk5, rfl, .inr ⟨k + 1, by omega, hJx4⟩⟩

      · have hkm' : k = m := by omega
        subst hkm'
        have hok := HM.out.2.2 (by rw [hln]; exact hkl)
        unfold okR at hok
        rw [hxc] at hok
        rw [refV_no hok] at hRF
        obtain ⟨g1, hg1⟩ : ∃ g1 : Kn, g1 = ⟨0, 0, 0, 0⟩ := ⟨_, rfl⟩
        rw [show (Value.tuple #[.agg #[.int .u64 0, .int .u64 0, .int .u64 0, .int .u64 0], .int .i64 2]) = .tuple #[.agg #[.int .u64 g1.l, .int .u64 g1.lo, .int .u64 g1.hi, .int .u64 g1.a], .int .i64 2] by rw [hg1]] at hRF
        have HRF := Lib.hid hRF
        clear hRF hok hxc hg1
        generalize gR x0 xs k = g0 at *
        generalize nowV x0 xs k = n0 at *
        have O1 := HOW.out
        have c1x0 := Own.cell O1 0 rfl
        have f1x0 := Own.free O1 0 rfl
        have l1x0 := Own.lt O1 0 rfl
        have l1x0d0 := le_up 0 l1x0
        have l1x0d1 := le_up 1 l1x0
        simp only [upN] at l1x0d0 l1x0d1
        have c1x1 := Own.cell O1 1 rfl
        have f1x1 := Own.free O1 1 rfl
        have l1x1 := Own.lt O1 1 rfl
        have l1x1d0 := le_up 0 l1x1
        have l1x1d1 := le_up 1 l1x1
        simp only [upN] at l1x1d0 l1x1d1
        have c1x2 := Own.cell O1 2 rfl
        have f1x2 := Own.free O1 2 rfl
        have l1x2 := Own.lt O1 2 rfl
        have l1x2d0 := le_up 0 l1x2
        have l1x2d1 := le_up 1 l1x2
        simp only [upN] at l1x2d0 l1x2d1
        have c1x3 := Own.cell O1 3 rfl
        have f1x3 := Own.free O1 3 rfl
        have l1x3 := Own.lt O1 3 rfl
        have l1x3d0 := le_up 0 l1x3
        have l1x3d1 := le_up 1 l1x3
        simp only [upN] at l1x3d0 l1x3d1
        have HO1 := Lib.hid O1
        clear O1
        gi_wp2
        refine ⟨trivial, rfl, (callR _ (HRF.out _)).mono ?_⟩
        rintro e w2 ⟨rfl, hb2⟩
        have O2 := Own.grow' hb2 HO1.out
        try simp only [List.setIfInBounds_toArray, List.set_cons_zero, List.set_cons_succ] at O2
        have bw2 : Below w.heap.size w w2 := Below.trans (by go_grown) (Below.mono hb2 (by first | omega | (simp; done) | (simp; omega)))
        have zw2 := Below.size hb2
        try simp only [World.size_alloc, World.size_drew, World.size_setCell] at zw2
        have kk2 := Keep.below (Keep.refl (fun b => ((S b ∧ b < w0.heap.size) ∨ b = W0.heap.size + 3) ∨ W2.heap.size ≤ b) w) hb2
        have hwc2 : Below w.heap.size w w2 := Below.trans (by go_grown) (Below.mono hb2 (by first | omega | (simp; done) | (simp; omega)))
        clear c1x0 f1x0 l1x0 l1x0d0 l1x0d1 c1x1 f1x1 l1x1 l1x1d0 l1x1d1 c1x2 f1x2 l1x2 l1x2d0 l1x2d1 c1x3 f1x3 l1x3 l1x3d0 l1x3d1
        have c2x0 := Own.cell O2 0 rfl
        have f2x0 := Own.free O2 0 rfl
        have l2x0 := Own.lt O2 0 rfl
        have l2x0d0 := le_up 0 l2x0
        have l2x0d1 := le_up 1 l2x0
        simp only [upN] at l2x0d0 l2x0d1
        have a2x0 := fun o1 o2 o3 i => cell_al3 l2x0 o1 o2 o3 i
        have c2x1 := Own.cell O2 1 rfl
        have f2x1 := Own.free O2 1 rfl
        have l2x1 := Own.lt O2 1 rfl
        have l2x1d0 := le_up 0 l2x1
        have l2x1d1 := le_up 1 l2x1
        simp only [upN] at l2x1d0 l2x1d1
        have a2x1 := fun o1 o2 o3 i => cell_al3 l2x1 o1 o2 o3 i
        have c2x2 := Own.cell O2 2 rfl
        have f2x2 := Own.free O2 2 rfl
        have l2x2 := Own.lt O2 2 rfl
        have l2x2d0 := le_up 0 l2x2
        have l2x2d1 := le_up 1 l2x2
        simp only [upN] at l2x2d0 l2x2d1
        have a2x2 := fun o1 o2 o3 i => cell_al3 l2x2 o1 o2 o3 i
        have c2x3 := Own.cell O2 3 rfl
        have f2x3 := Own.free O2 3 rfl
        have l2x3 := Own.lt O2 3 rfl
        have l2x3d0 := le_up 0 l2x3
        have l2x3d1 := le_up 1 l2x3
        simp only [upN] at l2x3d0 l2x3d1
        have a2x3 := fun o1 o2 o3 i => cell_al3 l2x3 o1 o2 o3 i
        have HO2 := Lib.hid O2
        clear O2 hb2
        gi_wp2
        apply wpIn_mid
        · gi_region
          all_goals exact ⟨rfl, rfl, rfl⟩
        have q0 : J k w2 := HJ.out.grow HJV.out hwc2
        have p0 : Keep (fun b => ((S b ∧ b < w0.heap.size) ∨ b = W0.heap.size + 3) ∨ W2.heap.size ≤ b) w w2 := kk2
        have o0 : Own [(bx, #[.int .u64 x.a, .int .u64 x.b, .int .u64 x.c, .int .u64 x.d, .int .u64 x.l], 27), (W0.heap.size + 2, #[.int .u64 g0.l, .int .u64 g0.lo, .int .u64 g0.hi, .int .u64 g0.a], 37), (W0.heap.size + 1, #[.int .u64 n0.a, .int .u64 n0.b, .int .u64 n0.c, .int .u64 n0.d, .int .u64 n0.l], 27), (W0.heap.size, #[.func (.yield l) #[] #[]], 80)] w2 := HO2.out
        have q1 : J k (w2.setCell ⟨W0.heap.size + 1 + 1, 0, none⟩ (.int .u64 g1.l)) := HJ.out.setCell (b := W0.heap.size + 1 + 1) _ _ q0 (by omega)
        have p1 : Keep (fun b => ((S b ∧ b < w0.heap.size) ∨ b = W0.heap.size + 3) ∨ W2.heap.size ≤ b) w (w2.setCell ⟨W0.heap.size + 1 + 1, 0, none⟩ (.int .u64 g1.l)) := Keep.setCell p0 _ _ (.inl (by rintro ((⟨_, h⟩ | h) | h) <;> (dsimp only at h; omega)))
        have o1 : Own [(bx, #[.int .u64 x.a, .int .u64 x.b, .int .u64 x.c, .int .u64 x.d, .int .u64 x.l], 27), (W0.heap.size + 2, #[.int .u64 g1.l, .int .u64 g0.lo, .int .u64 g0.hi, .int .u64 g0.a], 37), (W0.heap.size + 1, #[.int .u64 n0.a, .int .u64 n0.b, .int .u64 n0.c, .int .u64 n0.d, .int .u64 n0.l], 27), (W0.heap.size, #[.func (.yield l) #[] #[]], 80)] (w2.setCell ⟨W0.heap.size + 1 + 1, 0, none⟩ (.int .u64 g1.l)) := by
          have := Own.set (o := 0) (v := .int .u64 g1.l) o0 1 rfl (Ne1.cons (by first | omega | (simp; omega)) (Ne1.cons (by first | omega | (simp; omega)) (Ne1.cons (by first | omega | (simp; omega)) Ne1.nil)))
          simpa only [List.setIfInBounds_toArray, List.set_cons_zero, List.set_cons_succ] using this
        clear q0 p0 o0
        have q2 : J k ((w2.setCell ⟨W0.heap.size + 1 + 1, 0, none⟩ (.int .u64 g1.l)).setCell ⟨W0.heap.size + 1 + 1, 1, none⟩ (.int .u64 g1.lo)) := HJ.out.setCell (b := W0.heap.size + 1 + 1) _ _ q1 (by omega)
        have p2 : Keep (fun b => ((S b ∧ b < w0.heap.size) ∨ b = W0.heap.size + 3) ∨ W2.heap.size ≤ b) w ((w2.setCell ⟨W0.heap.size + 1 + 1, 0, none⟩ (.int .u64 g1.l)).setCell ⟨W0.heap.size + 1 + 1, 1, none⟩ (.int .u64 g1.lo)) := Keep.setCell p1 _ _ (.inl (by rintro ((⟨_, h⟩ | h) | h) <;> (dsimp only at h; omega)))
        have o2 : Own [(bx, #[.int .u64 x.a, .int .u64 x.b, .int .u64 x.c, .int .u64 x.d, .int .u64 x.l], 27), (W0.heap.size + 2, #[.int .u64 g1.l, .int .u64 g1.lo, .int .u64 g0.hi, .int .u64 g0.a], 37), (W0.heap.size + 1, #[.int .u64 n0.a, .int .u64 n0.b, .int .u64 n0.c, .int .u64 n0.d, .int .u64 n0.l], 27), (W0.heap.size, #[.func (.yield l) #[] #[]], 80)] ((w2.setCell ⟨W0.heap.size + 1 + 1, 0, none⟩ (.int .u64 g1.l)).setCell ⟨W0.heap.size + 1 + 1, 1, none⟩ (.int .u64 g1.lo)) := by
          have := Own.set (o := 1) (v := .int .u64 g1.lo) o1 1 rfl (Ne1.cons (by first | omega | (simp; omega)) (Ne1.cons (by first | omega | (simp; omega)) (Ne1.cons (by first | omega | (simp; omega)) Ne1.nil)))
          simpa only [List.setIfInBounds_toArray, List.set_cons_zero, List.set_cons_succ] using this
        clear q1 p1 o1
        have q3 : J k (((w2.setCell ⟨W0.heap.size + 1 + 1, 0, none⟩ (.int .u64 g1.l)).setCell ⟨W0.heap.size + 1 + 1, 1, none⟩ (.int .u64 g1.lo)).setCell ⟨W0.heap.size + 1 + 1, 2, none⟩ (.int .u64 g1.hi)) := HJ.out.setCell (b := W0.heap.size + 1 + 1) _ _ q2 (by omega)
        have p3 : Keep (fun b => ((S b ∧ b < w0.heap.size) ∨ b = W0.heap.size + 3) ∨ W2.heap.size ≤ b) w (((w2.setCell ⟨W0.heap.size + 1 + 1, 0, none⟩ (.int .u64 g1.l)).setCell ⟨W0.heap.size + 1 + 1, 1, none⟩ (.int .u64 g1.lo)).setCell ⟨W0.heap.size + 1 + 1, 2, none⟩ (.int .u64 g1.hi)) := Keep.setCell p2 _ _ (.inl (by rintro ((⟨_, h⟩ | h) | h) <;> (dsimp only at h; omega)))
        have o3 : Own [(bx, #[.int .u64 x.a, .int .u64 x.b, .int .u64 x.c, .int .u64 x.d, .int .u64 x.l], 27), (W0.heap.size + 2, #[.int .u64 g1.l, .int .u64 g1.lo, .int .u64 g1.hi, .int .u64 g0.a], 37), (W0.heap.size + 1, #[.int .u64 n0.a, .int .u64 n0.b, .int .u64 n0.c, .int .u64 n0.d, .int .u64 n0.l], 27), (W0.heap.size, #[.func (.yield l) #[] #[]], 80)] (((w2.setCell ⟨W0.heap.size + 1 + 1, 0, none⟩ (.int .u64 g1.l)).setCell ⟨W0.heap.size + 1 + 1, 1, none⟩ (.int .u64 g1.lo)).setCell ⟨W0.heap.size + 1 + 1, 2, none⟩ (.int .u64 g1.hi)) := by
          have := Own.set (o := 2) (v := .int .u64 g1.hi) o2 1 rfl (Ne1.cons (by first | omega | (simp; omega)) (Ne1.cons (by first | omega | (simp; omega)) (Ne1.cons (by first | omega | (simp; omega)) Ne1.nil)))
          simpa only [List.setIfInBounds_toArray, List.set_cons_zero, List.set_cons_succ] using this
        clear q2 p2 o2
        have q4 : J k ((((w2.setCell ⟨W0.heap.size + 1 + 1, 0, none⟩ (.int .u64 g1.l)).setCell ⟨W0.heap.size + 1 + 1, 1, none⟩ (.int .u64 g1.lo)).setCell ⟨W0.heap.size + 1 + 1, 2, none⟩ (.int .u64 g1.hi)).setCell ⟨W0.heap.size + 1 + 1, 3, none⟩ (.int .u64 g1.a)) := HJ.out.setCell (b := W0.heap.size + 1 + 1) _ _ q3 (by omega)
        have p4 : Keep (fun b => ((S b ∧ b < w0.heap.size) ∨ b = W0.heap.size + 3) ∨ W2.heap.size ≤ b) w ((((w2.setCell ⟨W0.heap.size + 1 + 1, 0, none⟩ (.int .u64 g1.l)).setCell ⟨W0.heap.size + 1 + 1, 1, none⟩ (.int .u64 g1.lo)).setCell ⟨W0.heap.size + 1 + 1, 2, none⟩ (.int .u64 g1.hi)).setCell ⟨W0.heap.size + 1 + 1, 3, none⟩ (.int .u64 g1.a)) := Keep.setCell p3 _ _ (.inl (by rintro ((⟨_, h⟩ | h) | h) <;> (dsimp only at h; omega)))
        have o4 : Own [(bx, #[.int .u64 x.a, .int .u64 x.b, .int .u64 x.c, .int .u64 x.d, .int .u64 x.l], 27), (W0.heap.size + 2, #[.int .u64 g1.l, .int .u64 g1.lo, .int .u64 g1.hi, .int .u64 g1.a], 37), (W0.heap.size + 1, #[.int .u64 n0.a, .int .u64 n0.b, .int .u64 n0.c, .int .u64 n0.d, .int .u64 n0.l], 27), (W0.heap.size, #[.func (.yield l) #[] #[]], 80)] ((((w2.setCell ⟨W0.heap.size + 1 + 1, 0, none⟩ (.int .u64 g1.l)).setCell ⟨W0.heap.size + 1 + 1, 1, none⟩ (.int .u64 g1.lo)).setCell ⟨W0.heap.size + 1 + 1, 2, none⟩ (.int .u64 g1.hi)).setCell ⟨W0.heap.size + 1 + 1, 3, none⟩ (.int .u64 g1.a)) := by
          have := Own.set (o := 3) (v := .int .u64 g1.a) o3 1 rfl (Ne1.cons (by first | omega | (simp; omega)) (Ne1.cons (by first | omega | (simp; omega)) (Ne1.cons (by first | omega | (simp; omega)) Ne1.nil)))
          simpa only [List.setIfInBounds_toArray, List.set_cons_zero, List.set_cons_succ] using this
        clear q3 p3 o3
        have q5 : J k (((((w2.setCell ⟨W0.heap.size + 1 + 1, 0, none⟩ (.int .u64 g1.l)).setCell ⟨W0.heap.size + 1 + 1, 1, none⟩ (.int .u64 g1.lo)).setCell ⟨W0.heap.size + 1 + 1, 2, none⟩ (.int .u64 g1.hi)).setCell ⟨W0.heap.size + 1 + 1, 3, none⟩ (.int .u64 g1.a)).setCell ⟨W0.heap.size + 1, 0, none⟩ (.int .u64 x.a)) := HJ.out.setCell (b := W0.heap.size + 1) _ _ q4 (by omega)
        have p5 : Keep (fun b => ((S b ∧ b < w0.heap.size) ∨ b = W0.heap.size + 3) ∨ W2.heap.size ≤ b) w (((((w2.setCell ⟨W0.heap.size + 1 + 1, 0, none⟩ (.int .u64 g1.l)).setCell ⟨W0.heap.size + 1 + 1, 1, none⟩ (.int .u64 g1.lo)).setCell ⟨W0.heap.size + 1 + 1, 2, none⟩ (.int .u64 g1.hi)).setCell ⟨W0.heap.size + 1 + 1, 3, none⟩ (.int .u64 g1.a)).setCell ⟨W0.heap.size + 1, 0, none⟩ (.int .u64 x.a)) := Keep.setCell p4 _ _ (.inl (by rintro ((⟨_, h⟩ | h) | h) <;> (dsimp only at h; omega)))
        have o5 : Own [(bx, #[.int .u64 x.a, .int .u64 x.b, .int .u64 x.c, .int .u64 x.d, .int .u64 x.l], 27), (W0.heap.size + 2, #[.int .u64 g1.l, .int .u64 g1.lo, .int .u64 g1.hi, .int .u64 g1.a], 37), (W0.heap.size + 1, #[.int .u64 x.a, .int .u64 n0.b, .int .u64 n0.c, .int .u64 n0.d, .int .u64 n0.l], 27), (W0.heap.size, #[.func (.yield l) #[] #[]], 80)] (((((w2.setCell ⟨W0.heap.size + 1 + 1, 0, none⟩ (.int .u64 g1.l)).setCell ⟨W0.heap.size + 1 + 1, 1, none⟩ (.int .u64 g1.lo)).setCell ⟨W0.heap.size + 1 + 1, 2, none⟩ (.int .u64 g1.hi)).setCell ⟨W0.heap.size + 1 + 1, 3, none⟩ (.int .u64 g1.a)).setCell ⟨W0.heap.size + 1, 0, none⟩ (.int .u64 x.a)) := by
          have := Own.set (o := 0) (v := .int .u64 x.a) o4 2 rfl (Ne1.cons (by first | omega | (simp; omega)) (Ne1.cons (by first | omega | (simp; omega)) (Ne1.cons (by first | omega | (simp; omega)) Ne1.nil)))
          simpa only [List.setIfInBounds_toArray, List.set_cons_zero, List.set_cons_succ] using this
        clear q4 p4 o4
        have q6 : J k ((((((w2.setCell ⟨W0.heap.size + 1 + 1, 0, none⟩ (.int .u64 g1.l)).setCell ⟨W0.heap.size + 1 + 1, 1, none⟩ (.int .u64 g1.lo)).setCell ⟨W0.heap.size + 1 + 1, 2, none⟩ (.int .u64 g1.hi)).setCell ⟨W0.heap.size + 1 + 1, 3, none⟩ (.int .u64 g1.a)).setCell ⟨W0.heap.size + 1, 0, none⟩ (.int .u64 x.a)).setCell ⟨W0.heap.size + 1, 1, none⟩ (.int .u64 x.b)) := HJ.out.setCell (b := W0.heap.size + 1) _ _ q5 (by omega)
        have p6 : Keep (fun b => ((S b ∧ b < w0.heap.size) ∨ b = W0.heap.size + 3) ∨ W2.heap.size ≤ b) w ((((((w2.setCell ⟨W0.heap.size + 1 + 1, 0, none⟩ (.int .u64 g1.l)).setCell ⟨W0.heap.size + 1 + 1, 1, none⟩ (.int .u64 g1.lo)).setCell ⟨W0.heap.size + 1 + 1, 2, none⟩ (.int .u64 g1.hi)).setCell ⟨W0.heap.size + 1 + 1, 3, none⟩ (.int .u64 g1.a)).setCell ⟨W0.heap.size + 1, 0, none⟩ (.int .u64 x.a)).setCell ⟨W0.heap.size + 1, 1, none⟩ (.int .u64 x.b)) := Keep.setCell p5 _ _ (.inl (by rintro ((⟨_, h⟩ | h) | h) <;> (dsimp only at h; omega)))
        have o6 : Own [(bx, #[.int .u64 x.a, .int .u64 x.b, .int .u64 x.c, .int .u64 x.d, .int .u64 x.l], 27), (W0.heap.size + 2, #[.int .u64 g1.l, .int .u64 g1.lo, .int .u64 g1.hi, .int .u64 g1.a], 37), (W0.heap.size + 1, #[.int .u64 x.a, .int .u64 x.b, .int .u64 n0.c, .int .u64 n0.d, .int .u64 n0.l], 27), (W0.heap.size, #[.func (.yield l) #[] #[]], 80)] ((((((w2.setCell ⟨W0.heap.size + 1 + 1, 0, none⟩ (.int .u64 g1.l)).setCell ⟨W0.heap.size + 1 + 1, 1, none⟩ (.int .u64 g1.lo)).setCell ⟨W0.heap.size + 1 + 1, 2, none⟩ (.int .u64 g1.hi)).setCell ⟨W0.heap.size + 1 + 1, 3, none⟩ (.int .u64 g1.a)).setCell ⟨W0.heap.size + 1, 0, none⟩ (.int .u64 x.a)).setCell ⟨W0.heap.size + 1, 1, none⟩ (.int .u64 x.b)) := by
          have := Own.set (o := 1) (v := .int .u64 x.b) o5 2 rfl (Ne1.cons (by first | omega | (simp; omega)) (Ne1.cons (by first | omega | (simp; omega)) (Ne1.cons (by first | omega | (simp; omega)) Ne1.nil)))
          simpa only [List.setIfInBounds_toArray, List.set_cons_zero, List.set_cons_succ] using this
        clear q5 p5 o5
        have q7 : J k (((((((w2.setCell ⟨W0.heap.size + 1 + 1, 0, none⟩ (.int .u64 g1.l)).setCell ⟨W0.heap.size + 1 + 1, 1, none⟩ (.int .u64 g1.lo)).setCell ⟨W0.heap.size + 1 + 1, 2, none⟩ (.int .u64 g1.hi)).setCell ⟨W0.heap.size + 1 + 1, 3, none⟩ (.int .u64 g1.a)).setCell ⟨W0.heap.size + 1, 0, none⟩ (.int .u64 x.a)).setCell ⟨W0.heap.size + 1, 1, none⟩ (.int .u64 x.b)).setCell ⟨W0.heap.size + 1, 2, none⟩ (.int .u64 x.c)) := HJ.out.setCell (b := W0.heap.size + 1) _ _ q6 (by omega)
        have p7 : Keep (fun b => ((S b ∧ b < w0.heap.size) ∨ b = W0.heap.size + 3) ∨ W2.heap.size ≤ b) w (((((((w2.setCell ⟨W0.heap.size + 1 + 1, 0, none⟩ (.int .u64 g1.l)).setCell ⟨W0.heap.size + 1 + 1, 1, none⟩ (.int .u64 g1.lo)).setCell ⟨W0.heap.size + 1 + 1, 2, none⟩ (.int .u64 g1.hi)).setCell ⟨W0.heap.size + 1 + 1, 3, none⟩ (.int .u64 g1.a)).setCell ⟨W0.heap.size + 1, 0, none⟩ (.int .u64 x.a)).setCell ⟨W0.heap.size + 1, 1, none⟩ (.int .u64 x.b)).setCell ⟨W0.heap.size + 1, 2, none⟩ (.int .u64 x.c)) := Keep.setCell p6 _ _ (.inl (by rintro ((⟨_, h⟩ | h) | h) <;> (dsimp only at h; omega)))
        have o7 : Own [(bx, #[.int .u64 x.a, .int .u64 x.b, .int .u64 x.c, .int .u64 x.d, .int .u64 x.l], 27), (W0.heap.size + 2, #[.int .u64 g1.l, .int .u64 g1.lo, .int .u64 g1.hi, .int .u64 g1.a], 37), (W0.heap.size + 1, #[.int .u64 x.a, .int .u64 x.b, .int .u64 x.c, .int .u64 n0.d, .int .u64 n0.l], 27), (W0.heap.size, #[.func (.yield l) #[] #[]], 80)] (((((((w2.setCell ⟨W0.heap.size + 1 + 1, 0, none⟩ (.int .u64 g1.l)).setCell ⟨W0.heap.size + 1 + 1, 1, none⟩ (.int .u64 g1.lo)).setCell ⟨W0.heap.size + 1 + 1, 2, none⟩ (.int .u64 g1.hi)).setCell ⟨W0.heap.size + 1 + 1, 3, none⟩ (.int .u64 g1.a)).setCell ⟨W0.heap.size + 1, 0, none⟩ (.int .u64 x.a)).setCell ⟨W0.heap.size + 1, 1, none⟩ (.int .u64 x.b)).setCell ⟨W0.heap.size + 1, 2, none⟩ (.int .u64 x.c)) := by
          have := Own.set (o := 2) (v := .int .u64 x.c) o6 2 rfl (Ne1.cons (by first | omega | (simp; omega)) (Ne1.cons (by first | omega | (simp; omega)) (Ne1.cons (by first | omega | (simp; omega)) Ne1.nil)))
          simpa only [List.setIfInBounds_toArray, List.set_cons_zero, List.set_cons_succ] using this
        clear q6 p6 o6
        have q8 : J k ((((((((w2.setCell ⟨W0.heap.size + 1 + 1, 0, none⟩ (.int .u64 g1.l)).setCell ⟨W0.heap.size + 1 + 1, 1, none⟩ (.int .u64 g1.lo)).setCell ⟨W0.heap.size + 1 + 1, 2, none⟩ (.int .u64 g1.hi)).setCell ⟨W0.heap.size + 1 + 1, 3, none⟩ (.int .u64 g1.a)).setCell ⟨W0.heap.size + 1, 0, none⟩ (.int .u64 x.a)).setCell ⟨W0.heap.size + 1, 1, none⟩ (.int .u64 x.b)).setCell ⟨W0.heap.size + 1, 2, none⟩ (.int .u64 x.c)).setCell ⟨W0.heap.size + 1, 3, none⟩ (.int .u64 x.d)) := HJ.out.setCell (b := W0.heap.size + 1) _ _ q7 (by omega)
        have p8 : Keep (fun b => ((S b ∧ b < w0.heap.size) ∨ b = W0.heap.size + 3) ∨ W2.heap.size ≤ b) w ((((((((w2.setCell ⟨W0.heap.size + 1 + 1, 0, none⟩ (.int .u64 g1.l)).setCell ⟨W0.heap.size + 1 + 1, 1, none⟩ (.int .u64 g1.lo)).setCell ⟨W0.heap.size + 1 + 1, 2, none⟩ (.int .u64 g1.hi)).setCell ⟨W0.heap.size + 1 + 1, 3, none⟩ (.int .u64 g1.a)).setCell ⟨W0.heap.size + 1, 0, none⟩ (.int .u64 x.a)).setCell ⟨W0.heap.size + 1, 1, none⟩ (.int .u64 x.b)).setCell ⟨W0.heap.size + 1, 2, none⟩ (.int .u64 x.c)).setCell ⟨W0.heap.size + 1, 3, none⟩ (.int .u64 x.d)) := Keep.setCell p7 _ _ (.inl (by rintro ((⟨_, h⟩ | h) | h) <;> (dsimp only at h; omega)))
        have o8 : Own [(bx, #[.int .u64 x.a, .int .u64 x.b, .int .u64 x.c, .int .u64 x.d, .int .u64 x.l], 27), (W0.heap.size + 2, #[.int .u64 g1.l, .int .u64 g1.lo, .int .u64 g1.hi, .int .u64 g1.a], 37), (W0.heap.size + 1, #[.int .u64 x.a, .int .u64 x.b, .int .u64 x.c, .int .u64 x.d, .int .u64 n0.l], 27), (W0.heap.size, #[.func (.yield l) #[] #[]], 80)] ((((((((w2.setCell ⟨W0.heap.size + 1 + 1, 0, none⟩ (.int .u64 g1.l)).setCell ⟨W0.heap.size + 1 + 1, 1, none⟩ (.int .u64 g1.lo)).setCell ⟨W0.heap.size + 1 + 1, 2, none⟩ (.int .u64 g1.hi)).setCell ⟨W0.heap.size + 1 + 1, 3, none⟩ (.int .u64 g1.a)).setCell ⟨W0.heap.size + 1, 0, none⟩ (.int .u64 x.a)).setCell ⟨W0.heap.size + 1, 1, none⟩ (.int .u64 x.b)).setCell ⟨W0.heap.size + 1, 2, none⟩ (.int .u64 x.c)).setCell ⟨W0.heap.size + 1, 3, none⟩ (.int .u64 x.d)) := by
          have := Own.set (o := 3) (v := .int .u64 x.d) o7 2 rfl (Ne1.cons (by first | omega | (simp; omega)) (Ne1.cons (by first | omega | (simp; omega)) (Ne1.cons (by first | omega | (simp; omega)) Ne1.nil)))
          simpa only [List.setIfInBounds_toArray, List.set_cons_zero, List.set_cons_succ] using this
        clear q7 p7 o7
        have q9 : J k (((((((((w2.setCell ⟨W0.heap.size + 1 + 1, 0, none⟩ (.int .u64 g1.l)).setCell ⟨W0.heap.size + 1 + 1, 1, none⟩ (.int .u64 g1.lo)).setCell ⟨W0.heap.size + 1 + 1, 2, none⟩ (.int .u64 g1.hi)).setCell ⟨W0.heap.size + 1 + 1, 3, none⟩ (.int .u64 g1.a)).setCell ⟨W0.heap.size + 1, 0, none⟩ (.int .u64 x.a)).setCell ⟨W0.heap.size + 1, 1, none⟩ (.int .u64 x.b)).setCell ⟨W0.heap.size + 1, 2, none⟩ (.int .u64 x.c)).setCell ⟨W0.heap.size + 1, 3, none⟩ (.int .u64 x.d)).setCell ⟨W0.heap.size + 1, 4, none⟩ (.int .u64 x.l)) := HJ.out.setCell (b := W0.heap.size + 1) _ _ q8 (by omega)
        have p9 : Keep (fun b => ((S b ∧ b < w0.heap.size) ∨ b = W0.heap.size + 3) ∨ W2.heap.size ≤ b) w (((((((((w2.setCell ⟨W0.heap.size + 1 + 1, 0, none⟩ (.int .u64 g1.l)).setCell ⟨W0.heap.size + 1 + 1, 1, none⟩ (.int .u64 g1.lo)).setCell ⟨W0.heap.size + 1 + 1, 2, none⟩ (.int .u64 g1.hi)).setCell ⟨W0.heap.size + 1 + 1, 3, none⟩ (.int .u64 g1.a)).setCell ⟨W0.heap.size + 1, 0, none⟩ (.int .u64 x.a)).setCell ⟨W0.heap.size + 1, 1, none⟩ (.int .u64 x.b)).setCell ⟨W0.heap.size + 1, 2, none⟩ (.int .u64 x.c)).setCell ⟨W0.heap.size + 1, 3, none⟩ (.int .u64 x.d)).setCell ⟨W0.heap.size + 1, 4, none⟩ (.int .u64 x.l)) := Keep.setCell p8 _ _ (.inl (by rintro ((⟨_, h⟩ | h) | h) <;> (dsimp only at h; omega)))
        have o9 : Own [(bx, #[.int .u64 x.a, .int .u64 x.b, .int .u64 x.c, .int .u64 x.d, .int .u64 x.l], 27), (W0.heap.size + 2, #[.int .u64 g1.l, .int .u64 g1.lo, .int .u64 g1.hi, .int .u64 g1.a], 37), (W0.heap.size + 1, #[.int .u64 x.a, .int .u64 x.b, .int .u64 x.c, .int .u64 x.d, .int .u64 x.l], 27), (W0.heap.size, #[.func (.yield l) #[] #[]], 80)] (((((((((w2.setCell ⟨W0.heap.size + 1 + 1, 0, none⟩ (.int .u64 g1.l)).setCell ⟨W0.heap.size + 1 + 1, 1, none⟩ (.int .u64 g1.lo)).setCell ⟨W0.heap.size + 1 + 1, 2, none⟩ (.int .u64 g1.hi)).setCell ⟨W0.heap.size + 1 + 1, 3, none⟩ (.int .u64 g1.a)).setCell ⟨W0.heap.size + 1, 0, none⟩ (.int .u64 x.a)).setCell ⟨W0.heap.size + 1, 1, none⟩ (.int .u64 x.b)).setCell ⟨W0.heap.size + 1, 2, none⟩ (.int .u64 x.c)).setCell ⟨W0.heap.size + 1, 3, none⟩ (.int .u64 x.d)).setCell ⟨W0.heap.size + 1, 4, none⟩ (.int .u64 x.l)) := by
          have := Own.set (o := 4) (v := .int .u64 x.l) o8 2 rfl (Ne1.cons (by first | omega | (simp; omega)) (Ne1.cons (by first | omega | (simp; omega)) (Ne1.cons (by first | omega | (simp; omega)) Ne1.nil)))
          simpa only [List.setIfInBounds_toArray, List.set_cons_zero, List.set_cons_succ] using this
        clear q8 p8 o8
        have qa := HJ.out.alloc (.cells #[.int .u64 g1.l, .int .u64 g1.lo, .int .u64 g1.hi, .int .u64 g1.a] 37) q9
        have pa := Keep.alloc p9 (.cells #[.int .u64 g1.l, .int .u64 g1.lo, .int .u64 g1.hi, .int .u64 g1.a] 37)
        have oa := Own.grow o9 (World.below_alloc _ (.cells #[.int .u64 g1.l, .int .u64 g1.lo, .int .u64 g1.hi, .int .u64 g1.a] 37))
        have qd : J k (((((((((((w2.setCell ⟨W0.heap.size + 1 + 1, 0, none⟩ (.int .u64 g1.l)).setCell ⟨W0.heap.size + 1 + 1, 1, none⟩ (.int .u64 g1.lo)).setCell ⟨W0.heap.size + 1 + 1, 2, none⟩ (.int .u64 g1.hi)).setCell ⟨W0.heap.size + 1 + 1, 3, none⟩ (.int .u64 g1.a)).setCell ⟨W0.heap.size + 1, 0, none⟩ (.int .u64 x.a)).setCell ⟨W0.heap.size + 1, 1, none⟩ (.int .u64 x.b)).setCell ⟨W0.heap.size + 1, 2, none⟩ (.int .u64 x.c)).setCell ⟨W0.heap.size + 1, 3, none⟩ (.int .u64 x.d)).setCell ⟨W0.heap.size + 1, 4, none⟩ (.int .u64 x.l)).alloc (.cells #[.int .u64 g1.l, .int .u64 g1.lo, .int .u64 g1.hi, .int .u64 g1.a] 37)).drew) := HJ.out.grow qa ((Below.refl _ _).drew)
        have pd : Keep (fun b => ((S b ∧ b < w0.heap.size) ∨ b = W0.heap.size + 3) ∨ W2.heap.size ≤ b) w (((((((((((w2.setCell ⟨W0.heap.size + 1 + 1, 0, none⟩ (.int .u64 g1.l)).setCell ⟨W0.heap.size + 1 + 1, 1, none⟩ (.int .u64 g1.lo)).setCell ⟨W0.heap.size + 1 + 1, 2, none⟩ (.int .u64 g1.hi)).setCell ⟨W0.heap.size + 1 + 1, 3, none⟩ (.int .u64 g1.a)).setCell ⟨W0.heap.size + 1, 0, none⟩ (.int .u64 x.a)).setCell ⟨W0.heap.size + 1, 1, none⟩ (.int .u64 x.b)).setCell ⟨W0.heap.size + 1, 2, none⟩ (.int .u64 x.c)).setCell ⟨W0.heap.size + 1, 3, none⟩ (.int .u64 x.d)).setCell ⟨W0.heap.size + 1, 4, none⟩ (.int .u64 x.l)).alloc (.cells #[.int .u64 g1.l, .int .u64 g1.lo, .int .u64 g1.hi, .int .u64 g1.a] 37)).drew) := Keep.drew pa
        have od : Own _ (((((((((((w2.setCell ⟨W0.heap.size + 1 + 1, 0, none⟩ (.int .u64 g1.l)).setCell ⟨W0.heap.size + 1 + 1, 1, none⟩ (.int .u64 g1.lo)).setCell ⟨W0.heap.size + 1 + 1, 2, none⟩ (.int .u64 g1.hi)).setCell ⟨W0.heap.size + 1 + 1, 3, none⟩ (.int .u64 g1.a)).setCell ⟨W0.heap.size + 1, 0, none⟩ (.int .u64 x.a)).setCell ⟨W0.heap.size + 1, 1, none⟩ (.int .u64 x.b)).setCell ⟨W0.heap.size + 1, 2, none⟩ (.int .u64 x.c)).setCell ⟨W0.heap.size + 1, 3, none⟩ (.int .u64 x.d)).setCell ⟨W0.heap.size + 1, 4, none⟩ (.int .u64 x.l)).alloc (.cells #[.int .u64 g1.l, .int .u64 g1.lo, .int .u64 g1.hi, .int .u64 g1.a] 37)).drew) := Own.drew oa
        generalize ((((((((((w2.setCell ⟨W0.heap.size + 1 + 1, 0, none⟩ (.int .u64 g1.l)).setCell ⟨W0.heap.size + 1 + 1, 1, none⟩ (.int .u64 g1.lo)).setCell ⟨W0.heap.size + 1 + 1, 2, none⟩ (.int .u64 g1.hi)).setCell ⟨W0.heap.size + 1 + 1, 3, none⟩ (.int .u64 g1.a)).setCell ⟨W0.heap.size + 1, 0, none⟩ (.int .u64 x.a)).setCell ⟨W0.heap.size + 1, 1, none⟩ (.int .u64 x.b)).setCell ⟨W0.heap.size + 1, 2, none⟩ (.int .u64 x.c)).setCell ⟨W0.heap.size + 1, 3, none⟩ (.int .u64 x.d)).setCell ⟨W0.heap.size + 1, 4, none⟩ (.int .u64 x.l)).alloc (.cells #[.int .u64 g1.l, .int .u64 g1.lo, .int .u64 g1.hi, .int .u64 g1.a] 37)).drew = V3 at qd pd od ⊢
        have hj3 := qd
        have kp3 := pd
        have ow3 := Own.tl od
        clear q9 p9 o9 qa pa oa qd pd od
        have cy := Own.cell ow3 2 rfl
        have cg := Own.cell ow3 0 rfl
        have OW3 := Lib.hid ow3
        have KP3 := Lib.hid kp3
        clear ow3 kp3 c2x0 f2x0 l2x0 l2x0d0 l2x0d1 a2x0 c2x1 f2x1 l2x1 l2x1d0 l2x1d1 a2x1 c2x2 f2x2 l2x2 l2x2d0 l2x2d1 a2x2 c2x3 f2x3 l2x3 l2x3d0 l2x3d1 a2x3
        gi_wp2
        refine ⟨fun _ h => (by cases h), ?_⟩
        gi_wp2
        exact ⟨KP3.out.mono (fun q hq => .inr hq), rfl, .inl hj3⟩

  case done =>
    rintro V ⟨hkm, hj, ho, hk⟩ hD
    have hml := HM.out.1
    have he : xs.length = (zsR x0 xs m).length := by rw [zsR_len]; omega
    rw [he] at hj
    go_wp2_with fail
    exact end_mark1 hD (results_none rfl _ _ _) ⟨⟨_, rfl⟩, .inl (HJ.out.putObj _ hj (by omega))⟩
  case stop =>
    rintro c k V hkn ⟨rfl, hj⟩ hD
    go_wp2_with fail
    refine end_mark1 hD (results_none rfl _ _ _) ⟨⟨_, rfl⟩, ?_⟩
    rw [zsR_len]
    exact hj.imp (fun hj => HJ.out.putObj _ hj (by omega)) (fun ⟨j, hjm, hj⟩ => ⟨j, hjm, HX.out.putObj _ hj (by omega)⟩)
theorem total_any (A : Option Addr) (x0 : Vl) (xs : List Vl) (cap m : Nat) (w : World) (hS : SlAt w A (xs.flatMap Vl.cells)) (hcap : xs.length ≤ cap) (hn : xs.length ≤ 1000) (hm : UptoR x0 xs m) :
    Calls Try.prog 15 #[.agg #[.int .u64 x0.a, .int .u64 x0.b, .int .u64 x0.c, .int .u64 x0.d, .int .u64 x0.l], .slice A xs.length cap] w fun e w' => ∃ b b2 n0 : Nat, e = .returned (.func (.func 32) #[] #[.pointer (some ⟨b, 0, none⟩), .pointer (some ⟨b2, 0, none⟩)]) ∧ n0 = w'.heap.size ∧
      Seq Try.prog 32 #[.pointer (some ⟨b, 0, none⟩), .pointer (some ⟨b2, 0, none⟩)] encR (zsR x0 xs m) (fun k => k < n0) w' ∧ Below w.heap.size w w' := by
  have HQ := Lib.hid (fun b b2 V S hc0 hc1 hc2 hc3 hc4 hcl hS hb hb2 hA => total1_seq b b2 A x0 xs cap m V S hc0 hc1 hc2 hc3 hc4 hcl hS hcap hn hb hb2 hA hm)
  have HS := Lib.hid hS
  clear hS hm
  generalize hln : xs.length = ln at *
  go_enter Try.func15, Try.ntmps15
  go_wp2_with fail
  go_ret
  have hb : Below w.heap.size w ((w.alloc (.cells #[.int .u64 x0.a, .int .u64 x0.b, .int .u64 x0.c, .int .u64 x0.d, .int .u64 x0.l] 27)).alloc (.cells #[.slice A ln cap] 38)) := by go_grown
  have n := fun j u h => kept (World.below_alloc (w.alloc (.cells #[.int .u64 x0.a, .int .u64 x0.b, .int .u64 x0.c, .int .u64 x0.d, .int .u64 x0.l] 27)) (.cells #[.slice A ln cap] 38)) (newc w #[.int .u64 x0.a, .int .u64 x0.b, .int .u64 x0.c, .int .u64 x0.d, .int .u64 x0.l] 27 j (v := u) h)
  refine ⟨_, _, _, rfl, rfl, HQ.out _ _ _ _ (n 0 _ rfl) (n 1 _ rfl) (n 2 _ rfl) (n 3 _ rfl) (n 4 _ rfl) (by have := newc (w.alloc (.cells #[.int .u64 x0.a, .int .u64 x0.b, .int .u64 x0.c, .int .u64 x0.d, .int .u64 x0.l] 27)) #[.slice A ln cap] 38 0 (v := .slice A ln cap) rfl; rw [World.size_alloc] at this; exact this) (HS.out.grow hb) (by simp; omega) (by simp) (fun hne b' off h => ?_), hb⟩
  rcases HS.out with hz | ⟨b3, o3, h3, hl3, _⟩
  · exact absurd hz hne
  · rw [h3] at h; cases h; have := hb.size; omega
end Go.Proofs.Ytiglfbnicihpmaa
