/- Walks: gauge.Each: costs that are taken one behind the other, as a range over a function. -/
import Derived.Test.YtjmplababaejaaaGaugeEa
import Derived.Test.YtjmplababaejaaaGaugeHu
import Derived.Shelf.Abstract
import Derived.RegionIn
set_option linter.unusedVariables false
set_option linter.unusedSimpArgs false
namespace Go.Proofs.Ytjmplababaejaaa
open Go.RowKit
attribute [local go_sem] Oper.semAt_some

def atC (cs : List Kn) (k : Nat) : Kn := cs.getD k ⟨0, 0, 0, 0⟩
theorem atC_of {cs : List Kn} {k : Nat} {x : Kn} (h : cs[k]? = some x) : atC cs k = x := by simp [atC, h]
/-- The gauge behind the first so many. -/
def gK (g : Kn) (cs : List Kn) : Nat → Kn
  | 0 => g
  | k + 1 => takeG (gK g cs k) (atC cs k)
/-- So many can be taken. -/
def UptoG (g : Kn) (cs : List Kn) (m : Nat) : Prop := m ≤ cs.length ∧ (∀ j, j < m → takeK (gK g cs j) (atC cs j) = 0) ∧ (m < cs.length → takeK (gK g cs m) (atC cs m) ≠ 0)
theorem uptoG_has (g : Kn) (cs : List Kn) : ∃ m, UptoG g cs m := by
  by_cases h : ∃ j, j < cs.length ∧ takeK (gK g cs j) (atC cs j) ≠ 0
  · obtain ⟨j, hj⟩ := h
    obtain ⟨m, hm1, hm2⟩ : ∃ m, (m < cs.length ∧ takeK (gK g cs m) (atC cs m) ≠ 0) ∧ ∀ i, i < m → ¬ (i < cs.length ∧ takeK (gK g cs i) (atC cs i) ≠ 0) := by
      induction j using Nat.strongRecOn with
      | ind j ih =>
        by_cases h2 : ∃ i, i < j ∧ (i < cs.length ∧ takeK (gK g cs i) (atC cs i) ≠ 0)
        · obtain ⟨i, hi, hi2⟩ := h2; exact ih i hi hi2
        · exact ⟨j, hj, fun i hi hi2 => h2 ⟨i, hi, hi2⟩⟩
    refine ⟨m, by omega, fun i hi => ?_, fun _ => hm1.2⟩
    have := hm2 i hi
    by_cases e : takeK (gK g cs i) (atC cs i) = 0
    · exact e
    · exact absurd ⟨by omega, e⟩ this
  · refine ⟨cs.length, Nat.le_refl _, fun j hj => ?_, fun hh => absurd hh (Nat.lt_irrefl _)⟩
    by_cases e : takeK (gK g cs j) (atC cs j) = 0
    · exact e
    · exact absurd ⟨j, hj, e⟩ h
def Goodly (g : Kn) : Prop := g.ok = true ∧ 0 ≤ g.lo ∧ U g.a
theorem takeG_good {g c : Kn} (hg : Goodly g) (hc : Goodly c) : Goodly (takeG g c) := by
  refine ⟨take_ok hg.1 hc.1 hg.2.1 hc.2.1 hg.2.2 hc.2.2, ?_, ?_⟩
  · unfold takeG; split
    · dsimp only; omega
    · exact hg.2.1
  · unfold takeG; split
    · dsimp only; unfold madeA; split
      · exact ⟨by omega, by omega⟩
      · obtain ⟨X, hX⟩ := N_u hg.2.2
        obtain ⟨Y, hY⟩ := N_u hc.2.2
        rw [hX, hY]; unfold orI; rw [N_or]; exact ⟨N_lo _, N_hi _⟩
    · exact hg.2.2
theorem gK_good {g : Kn} {cs : List Kn} (hg : Goodly g) (hcs : ∀ c ∈ cs, Goodly c) : ∀ k, k ≤ cs.length → Goodly (gK g cs k)
  | 0, _ => hg
  | k + 1, h => takeG_good (gK_good hg hcs k (by omega)) (hcs _ (by rw [atC_of (List.getElem?_eq_getElem (by omega))]; exact List.getElem_mem _))
/-- What is told: the places, and the gauges. -/
def zsG (g : Kn) (cs : List Kn) (m : Nat) : List Kn := (List.range m).map fun k => gK g cs (k + 1)
abbrev encG : Nat → Kn → Array Value := fun k x => #[.int .i64 (k : Nat), .agg #[.int .u64 x.l, .int .u64 x.lo, .int .u64 x.hi, .int .u64 x.a]]
theorem zsG_len (g : Kn) (cs : List Kn) (m : Nat) : (zsG g cs m).length = m := by simp [zsG]
theorem zsG_at {g : Kn} {cs : List Kn} {m k : Nat} (h : k < m) : (zsG g cs m)[k]? = some (gK g cs (k + 1)) := by simp [zsG, h]
theorem knAt_of_sl {w : World} {A : Option Addr} {cs : List Kn} (h : SlAt w A (cs.flatMap Kn.cells)) : KnAt w A cs := fun i k hk => by
  have f := fun j hj => flat_at (f := Kn.cells) (n := 4) (fun _ => rfl) cs i k hk j hj
  obtain ⟨b, off, h1, h2, h3⟩ := h.cell (u := .int .u64 k.l) (f 0 (by omega))
  refine ⟨b, off, h1, h2, ?_, ?_, ?_, ?_⟩
  · have := h3 (i * 4 + 0) _ (f 0 (by omega)); simpa [Nat.add_assoc] using this
  · have := h3 (i * 4 + 1) _ (f 1 (by omega)); simpa [Nat.add_assoc] using this
  · have := h3 (i * 4 + 2) _ (f 2 (by omega)); simpa [Nat.add_assoc] using this
  · have := h3 (i * 4 + 3) _ (f 3 (by omega)); simpa [Nat.add_assoc] using this
theorem Own.keep {S : Nat → Prop} {A B : World} {H : List Block} (h : Keep S A B) (ho : Own H A) (hs : ∀ p ∈ H, S p.1) : Own H B := fun p hp => h.blk (ho p hp) (hs p hp)
def EaI (J : Nat → World → Prop) (g : Kn) (cs : List Kn) (m y b4 : Nat) (c : Array Value) (S : Nat → Prop) (w0 : World) (k : Nat) (V : World) : Prop :=
  k ≤ m ∧ J k V ∧ Own [(b4, #[.int .u64 (gK g cs k).l, .int .u64 (gK g cs k).lo, .int .u64 (gK g cs k).hi, .int .u64 (gK g cs k).a], 25), (y, c, 87)] V ∧ Keep S w0 V
theorem eaI_any {J : Nat → World → Prop} {g : Kn} {cs : List Kn} {m y b4 B : Nat} {c : Array Value} {S : Nat → Prop} {w0 : World} (hJ : AnyFrom B J) (hy : y < B) (hb : b4 < B) (h0 : ∀ k, S k → k < B ∨ w0.heap.size ≤ k) : AnyFrom B (EaI J g cs m y b4 c S w0) := fun k V V' row ⟨hk, hj, ho, hkp⟩ hg hr =>
  ⟨hk, hJ _ V V' row hj hg hr, any_own (β := Unit) (H := fun _ => _) (fun _ p hp => by simp only [List.mem_cons, List.not_mem_nil, or_false] at hp; rcases hp with rfl | rfl <;> (dsimp only; omega)) () V V' row ho hg hr, any_keep (β := Unit) h0 () V V' row hkp hg hr⟩
set_option maxHeartbeats 8000000 in
set_option maxRecDepth 20000 in
theorem each1_seq (b b2 : Nat) (A : Option Addr) (g : Kn) (cs : List Kn) (cap m : Nat) (w0 : World) (S : Nat → Prop) (hc0 : w0.cell? ⟨b, 0, none⟩ = some (.int .u64 g.l)) (hc1 : w0.cell? ⟨b, 1, none⟩ = some (.int .u64 g.lo)) (hc2 : w0.cell? ⟨b, 2, none⟩ = some (.int .u64 g.hi)) (hc3 : w0.cell? ⟨b, 3, none⟩ = some (.int .u64 g.a))
    (hcl : w0.cell? ⟨b2, 0, none⟩ = some (.slice A cs.length cap)) (hS : SlAt w0 A (cs.flatMap Kn.cells)) (hcap : cs.length ≤ cap) (hn : cs.length ≤ 1000)
    (hb : S b) (hb2 : S b2) (hA : cs.flatMap Kn.cells ≠ [] → ∀ b' off, A = some ⟨b', off, none⟩ → S b') (hgd : Goodly g) (hcd : ∀ c ∈ cs, Goodly c) (hm : UptoG g cs m) :
    Seq Try.prog 51 #[.pointer (some ⟨b, 0, none⟩), .pointer (some ⟨b2, 0, none⟩)] encG (zsG g cs m) S w0 := by
  intro l J Jx W0 hW hJ hJx hY h0
  have hW' : Keep (fun k => S k ∧ k < w0.heap.size) w0 W0 := hW.mono (fun k hk => hk.1)
  have hzW := hW.size
  have hWA := World.below_alloc W0 (.cells #[.func (.yield l) #[] #[]] 87)
  have d0 := kept hWA (hW.cell hc0 hb)
  have d1 := kept hWA (hW.cell hc1 hb)
  have d2 := kept hWA (hW.cell hc2 hb)
  have d3 := kept hWA (hW.cell hc3 hb)
  have dl := kept hWA (hW.cell hcl hb2)
  have hSW : SlAt W0 A (cs.flatMap Kn.cells) := hW.slAt hS hA
  have hall : (g :: cs).all Kn.ok = true := by
    rw [List.all_eq_true]; intro x hx
    rcases List.mem_cons.1 hx with rfl | hx
    · exact hgd.1
    · exact (hcd x hx).1
  have hCK := check_any g cs A cap (W0.alloc (.cells #[.func (.yield l) #[] #[]] 87)) hn (knAt_of_sl (hSW.grow hWA))
  rw [hall, if_pos rfl] at hCK
  have HCK := Lib.hid hCK
  have HS := Lib.hid hS
  have HY := Lib.hid hY
  have HJ := Lib.hid hJ
  have HX := Lib.hid hJx
  have HW := Lib.hid hW'
  have HM := Lib.hid hm
  have HGD := Lib.hid (fun k hk => gK_good hgd hcd k hk)
  have HCD := Lib.hid hcd
  have HZ := Lib.hid (fun k (hk : k < m) => zsG_at (g := g) (cs := cs) hk)
  have HAA := Lib.hid (fun V b S hc hS hb hA => alls1_seq b A cs cap V S hc hS hcap (Nat.le_trans hn (by decide)) hb hA)
  clear hY hJ hJx hS hW' hm hcd hCK hall hSW
  generalize hln : cs.length = ln at *
  refine calls_marks Try.func51 rfl ?_
  simp only [Try.ntmps51, List.size_toArray, List.length_cons, List.length_nil, Nat.reduceAdd, Nat.reduceSub, Array.replicate_succ, Array.replicate_zero, List.push_toArray, List.append_toArray, List.nil_append, List.cons_append]
  go_wp2_with fail
  go_step3
  go_wp2_with fail
  refine HCK.out.mono ?_
  rintro e w1 ⟨rfl, hb1⟩
  replace d0 := kept hb1 d0
  replace d1 := kept hb1 d1
  replace d2 := kept hb1 d2
  replace d3 := kept hb1 d3
  replace dl := kept hb1 dl
  have hBl : ∀ o : Obj, (w1.alloc o).cell? ⟨b2, 0, none⟩ = some (.slice A ln cap) := fun o => kept (World.below_alloc w1 o) dl
  have hz1 := hb1.size
  rw [World.size_alloc] at hz1
  have hO1 : Own [(W0.heap.size, #[.func (.yield l) #[] #[]], 87)] w1 := Own.grow' hb1 (Own.new (Own.nil W0) W0.heap.size rfl)
  have hk1 : Keep (fun k => S k ∧ k < w0.heap.size) w0 w1 := (HW.out.alloc _).below hb1
  have hj1 : J 0 w1 := HJ.out.grow (HJ.out.alloc _ h0) hb1
  clear hb1 hWA
  go_wp2_with fail
  refine wp_label ?_
  go_wp2_with fail
  refine (alls_any A ln cap _).mono ?_
  rintro e w2 ⟨rfl, rfl⟩
  clear hBl
  go_wp2_with fail
  refine wp_name fun W2 hW2 => ?_
  have hz2 : W2.heap.size = w1.heap.size + 2 := by rw [hW2]; simp
  have hkW : Keep (fun k => S k ∧ k < w0.heap.size) w0 W2 := by rw [hW2]; exact (hk1.alloc _).alloc _
  have hj2 : J 0 W2 := by rw [hW2]; exact HJ.out.alloc _ (HJ.out.alloc _ hj1)
  have hO2 : Own [(w1.heap.size + 1, #[.slice A ln cap], 48), (w1.heap.size, #[.int .u64 g.l, .int .u64 g.lo, .int .u64 g.hi, .int .u64 g.a], 25), (W0.heap.size, #[.func (.yield l) #[] #[]], 87)] W2 := by
    rw [hW2]; exact Own.new (Own.new hO1 w1.heap.size rfl) _ (by simp)
  have hvb := Own.cell hO2 0 rfl
  clear hW2 d0 d1 d2 d3 dl hO1 hk1 hj1
  try rw [World.size_alloc]
  generalize hb4 : w1.heap.size = b4 at *
  refine wp_each (w0 := W2) (xs := cs) (encs := allsEnc) (S := fun k => (S k ∧ k < w0.heap.size) ∨ k = b4 + 1) rfl (enters_of Try.func63 (by kernel_rfl) rfl)
    (HAA.out W2 (b4 + 1) _ (by rw [(hvb 0)]; rfl) (hkW.slAt HS.out (fun hne b' off h => by
      rcases HS.out with hz | ⟨b3, o3, h3, hl3, _⟩
      · exact absurd hz hne
      · rw [h3] at h; cases h; exact ⟨hA hne _ _ h3, hl3⟩)) (.inr rfl) (fun hne b' off h => by
      rcases HS.out with hz | ⟨b3, o3, h3, hl3, _⟩
      · exact absurd hz hne
      · rw [h3] at h; cases h; exact .inl ⟨hA hne _ _ h3, hl3⟩)) (fun k hk => by rcases hk with hk | hk <;> omega) (Keep.refl _ _) (fun _ _ => rfl)
    (EaI J g cs m W0.heap.size b4 #[.func (.yield l) #[] #[]] (fun k => S k ∧ k < w0.heap.size) w0) (fun c _ V => c = .exit 0 ∧ (J m V ∨ ∃ j, j ≤ m ∧ Jx j V)) ?hI ?hIx ?h0 ?round ?done ?stop
  case hI => exact eaI_any (HJ.out.mono (by omega)) (by omega) (by omega) (fun k hk => by omega)
  case hIx =>
    exact fun c k V V' row ⟨h, hj⟩ hg hr => ⟨h, hj.imp (fun hj => HJ.out.mono (by omega) _ V V' row hj hg hr) (fun ⟨j, hjm, hj⟩ => ⟨j, hjm, HX.out.mono (by omega) _ V V' row hj hg hr⟩)⟩
  case h0 => exact ⟨Nat.zero_le _, hj2, Own.tl hO2, hkW⟩
  case round =>
    intro l' k x V hx hE hl'
    gi_wp2
    refine ⟨(Keep.refl _ _).alloc _, fun V' => EaI J g cs m W0.heap.size b4 #[.func (.yield l) #[] #[]] (fun k => S k ∧ k < w0.heap.size) w0 k V' ∧ Blk V' V.heap.size #[.int .u64 x.l, .int .u64 x.lo, .int .u64 x.hi, .int .u64 x.a] 40, ?own, ⟨AnyFrom.alloc (B := W2.heap.size) (eaI_any (HJ.out.mono (by omega)) (by omega) (by omega) (fun k hk => by omega)) _ hE, heap_alloc_new _ _⟩, ?body⟩
    case own =>
      exact fun _ V V' row ⟨hE, hb⟩ hg hr => ⟨(eaI_any (HJ.out.mono (by omega)) (by omega) (by omega) (fun k hk => by omega)).from _ V V' row hE hg hr, ownFrom_blk (β := Unit) () V V' row hb hg hr⟩
    case body =>
      have hkl : k < ln := by rw [← hln]; exact (List.getElem?_eq_some_iff.1 hx).1
      have hVs : b4 < V.heap.size := hE.2.2.1.lt 0 rfl
      have hVt : W0.heap.size < V.heap.size := hE.2.2.1.lt 1 rfl
      generalize V.heap.size = bx at *
      clear hE
      rintro w ⟨⟨hkm, hjV, hOV, hkV⟩, hbx⟩
      have hbxl := hbx.lt
      have HOW := Lib.hid (Own.cons hbx hOV)
      have HJV := Lib.hid hjV
      have HKV := Lib.hid hkV
      clear hjV hOV hkV hbx
      have hxc := atC_of hx
      have hgk := HGD.out k (by omega)
      have hck := HCD.out x (List.mem_of_getElem? hx)
      have hok : ((gK g cs k).ok && x.ok) = true := by rw [hgk.1, hck.1]; rfl
      have hTK := fun V => take_right (gK g cs k) x V hok ⟨hgk.2.1, hck.2.1⟩ hgk.2.2
      have hg1 : gK g cs (k + 1) = takeG (gK g cs k) x := by simp only [gK, hxc]
      unfold Kn.val at hTK
      rw [← hg1] at hTK
      clear hgk hck hok
      obtain ⟨g1, HG⟩ : ∃ g1, gK g cs (k + 1) = g1 := ⟨_, rfl⟩
      rw [HG] at hTK
      have HG1 := Lib.hid HG
      clear HG hg1
      by_cases hlt' : k < m
      · have hkk := HM.out.2.1 k hlt'
        rw [hxc] at hkk
        rw [hkk] at hTK
        have HTK := Lib.hid hTK
        clear hTK hkk hxc
        generalize gK g cs k = g0 at *
        have O1 := HOW.out
        have c1x0 := Own.cell O1 0 rfl
        have f1x0 := Own.free O1 0 rfl
        have l1x0 := Own.lt O1 0 rfl
        have l1x0d0 := le_up 0 l1x0
        have l1x0d1 := le_up 1 l1x0
        simp only [upN] at l1x0d0 l1x0d1
        have c1x1 := Own.cell O1 1 rfl
        have f1x1 := Own.free O1 1 rfl
        have l1x1 := Own.lt O1 1 rfl
        have l1x1d0 := le_up 0 l1x1
        have l1x1d1 := le_up 1 l1x1
        simp only [upN] at l1x1d0 l1x1d1
        have c1x2 := Own.cell O1 2 rfl
        have f1x2 := Own.free O1 2 rfl
        have l1x2 := Own.lt O1 2 rfl
        have l1x2d0 := le_up 0 l1x2
        have l1x2d1 := le_up 1 l1x2
        simp only [upN] at l1x2d0 l1x2d1
        have HO1 := Lib.hid O1
        clear O1
        gi_wp2
        refine ⟨trivial, rfl, (callR _ (HTK.out _)).mono ?_⟩
        rintro e w2 ⟨rfl, hb2⟩
        have O2 := Own.grow' hb2 HO1.out
        try simp only [List.setIfInBounds_toArray, List.set_cons_zero, List.set_cons_succ] at O2
        have bw2 : Below w.heap.size w w2 := Below.trans (by go_grown) (Below.mono hb2 (by first | omega | (simp; done) | (simp; omega)))
        have zw2 := Below.size hb2
        try simp only [World.size_alloc, World.size_drew, World.size_setCell] at zw2
        have kk2 := Keep.below (Keep.refl (fun b => ((S b ∧ b < w0.heap.size) ∨ b = b4 + 1) ∨ W2.heap.size ≤ b) w) hb2
        have hwc2 : Below w.heap.size w w2 := Below.trans (by go_grown) (Below.mono hb2 (by first | omega | (simp; done) | (simp; omega)))
        clear c1x0 f1x0 l1x0 l1x0d0 l1x0d1 c1x1 f1x1 l1x1 l1x1d0 l1x1d1 c1x2 f1x2 l1x2 l1x2d0 l1x2d1
        have c2x0 := Own.cell O2 0 rfl
        have f2x0 := Own.free O2 0 rfl
        have l2x0 := Own.lt O2 0 rfl
        have l2x0d0 := le_up 0 l2x0
        have l2x0d1 := le_up 1 l2x0
        simp only [upN] at l2x0d0 l2x0d1
        have c2x1 := Own.cell O2 1 rfl
        have f2x1 := Own.free O2 1 rfl
        have l2x1 := Own.lt O2 1 rfl
        have l2x1d0 := le_up 0 l2x1
        have l2x1d1 := le_up 1 l2x1
        simp only [upN] at l2x1d0 l2x1d1
        have c2x2 := Own.cell O2 2 rfl
        have f2x2 := Own.free O2 2 rfl
        have l2x2 := Own.lt O2 2 rfl
        have l2x2d0 := le_up 0 l2x2
        have l2x2d1 := le_up 1 l2x2
        simp only [upN] at l2x2d0 l2x2d1
        have HO2 := Lib.hid O2
        clear O2 hb2
        gi_wp2
        obtain ⟨V3, hV3⟩ : ∃ V3, V3 = (((((w2.setCell ⟨b4, 0, none⟩ (.int .u64 g1.l)).setCell ⟨b4, 1, none⟩ (.int .u64 g1.lo)).setCell ⟨b4, 2, none⟩ (.int .u64 g1.hi)).setCell ⟨b4, 3, none⟩ (.int .u64 g1.a)).alloc (.cells #[.int .u64 g1.l, .int .u64 g1.lo, .int .u64 g1.hi, .int .u64 g1.a] 25)) := ⟨_, rfl⟩
        rw [← hV3]
        have hj3 : J k V3 := by rw [hV3]; exact (HJ.out.alloc (.cells #[.int .u64 g1.l, .int .u64 g1.lo, .int .u64 g1.hi, .int .u64 g1.a] 25) (HJ.out.setCell (b := b4) (.int .u64 g1.a) 3 (HJ.out.setCell (b := b4) (.int .u64 g1.hi) 2 (HJ.out.setCell (b := b4) (.int .u64 g1.lo) 1 (HJ.out.setCell (b := b4) (.int .u64 g1.l) 0 (HJ.out.grow HJV.out hwc2) (by omega)) (by omega)) (by omega)) (by omega)))
        have ow3 : Own [(b4, #[.int .u64 g1.l, .int .u64 g1.lo, .int .u64 g1.hi, .int .u64 g1.a], 25), (W0.heap.size, #[.func (.yield l) #[] #[]], 87)] V3 := by rw [hV3]; exact Own.eqv (Own.tl (Own.tl (Own.new (Own.set (Own.set (Own.set (Own.set HO2.out 1 rfl (Ne1.cons (by first | omega | (simp; omega)) (Ne1.cons (by first | omega | (simp; omega)) Ne1.nil))) 1 rfl (Ne1.cons (by first | omega | (simp; omega)) (Ne1.cons (by first | omega | (simp; omega)) Ne1.nil))) 1 rfl (Ne1.cons (by first | omega | (simp; omega)) (Ne1.cons (by first | omega | (simp; omega)) Ne1.nil))) 1 rfl (Ne1.cons (by first | omega | (simp; omega)) (Ne1.cons (by first | omega | (simp; omega)) Ne1.nil))) (w2.heap.size) (by first | rfl | simp)))) (by simp only [List.setIfInBounds_toArray, List.set_cons_zero, List.set_cons_succ])
        have kp3 : Keep (fun b => ((S b ∧ b < w0.heap.size) ∨ b = b4 + 1) ∨ W2.heap.size ≤ b) w V3 := by rw [hV3]; exact (Keep.alloc (Keep.setCell (Keep.setCell (Keep.setCell (Keep.setCell kk2 _ _ (.inl (by rintro ((⟨_, h⟩ | h) | h) <;> (dsimp only at h; omega)))) _ _ (.inl (by rintro ((⟨_, h⟩ | h) | h) <;> (dsimp only at h; omega)))) _ _ (.inl (by rintro ((⟨_, h⟩ | h) | h) <;> (dsimp only at h; omega)))) _ _ (.inl (by rintro ((⟨_, h⟩ | h) | h) <;> (dsimp only at h; omega)))) _)
        have cy := Own.cell ow3 1 rfl
        have cg := Own.cell ow3 0 rfl
        have OW3 := Lib.hid ow3
        have KP3 := Lib.hid kp3
        clear hV3 ow3 kp3 c2x0 f2x0 l2x0 l2x0d0 l2x0d1 c2x1 f2x1 l2x1 l2x1d0 l2x1d1 c2x2 f2x2 l2x2 l2x2d0 l2x2d1
        obtain ⟨fn, tmps, assign, body, hyy, hR⟩ := HY.out k _ V3 (HZ.out k hlt') hj3
        try simp only [encG] at hyy
        rw [HG1.out] at hyy
        rw [hyy]
        refine ⟨fun h => (by first | (simp [Fence.wide] at h; done) | (simp [Fence.wide, Fence.inRound] at h; done) | cases h), (show RoundIn (Fence.wide.inRound l') 0 _ _ _ _ _ _ _ _ from hR).mono ?_⟩
        rintro e V4 (⟨rfl, hJ4, hk4⟩ | ⟨rfl, hJx4, hk4⟩)
        · gi_wp2
          have hk5 : Keep (fun b => ((S b ∧ b < w0.heap.size) ∨ b = b4 + 1) ∨ W2.heap.size ≤ b) V3 V4 := hk4.mono (fun q hq => by rcases hq with (hq | hq) | hq <;> first | exact .inl hq.1 | exact .inr (by omega))
          have hk6 : Keep (fun b => S b ∧ b < w0.heap.size) V3 V4 := hk4.mono (fun q hq => .inl hq.1)
          have hk7 : Keep (fun b => S b ∧ b < w0.heap.size) w V3 := KP3.out.mono (fun q hq => .inl (.inl hq))
          exact ⟨KP3.out.trans hk5, by omega, hJ4, by rw [HG1.out]; exact Own.keep hk4 OW3.out (by simp only [List.mem_cons, List.not_mem_nil, or_false, forall_eq, forall_eq_or_imp]; exact ⟨.inr (by omega), .inr (Nat.le_refl _)⟩), HKV.out.trans (hk7.trans hk6)⟩
        · gi_wp2
          have hk5 : Keep (fun b => W2.heap.size ≤ b) V3 V4 := hk4.mono (fun q hq => by omega)
          exact ⟨(KP3.out.mono (fun q hq => .inr hq)).trans hk5, rfl, .inr ⟨k + 1, by omega, hJx4⟩⟩

      · have hkm' : k = m := by omega
        subst hkm'
        have hkk := HM.out.2.2 (by rw [hln]; exact hkl)
        rw [hxc] at hkk
        generalize takeK (gK g cs k) x = kk at *
        have d1 : decide (kk = 0) = false := by simp [hkk]
        have d1' : (kk != 0) = true := by simp [hkk]
        have HTK := Lib.hid hTK
        clear hTK hkk hxc
        generalize gK g cs k = g0 at *
        have O1 := HOW.out
        have c1x0 := Own.cell O1 0 rfl
        have f1x0 := Own.free O1 0 rfl
        have l1x0 := Own.lt O1 0 rfl
        have l1x0d0 := le_up 0 l1x0
        have l1x0d1 := le_up 1 l1x0
        simp only [upN] at l1x0d0 l1x0d1
        have c1x1 := Own.cell O1 1 rfl
        have f1x1 := Own.free O1 1 rfl
        have l1x1 := Own.lt O1 1 rfl
        have l1x1d0 := le_up 0 l1x1
        have l1x1d1 := le_up 1 l1x1
        simp only [upN] at l1x1d0 l1x1d1
        have c1x2 := Own.cell O1 2 rfl
        have f1x2 := Own.free O1 2 rfl
        have l1x2 := Own.lt O1 2 rfl
        have l1x2d0 := le_up 0 l1x2
        have l1x2d1 := le_up 1 l1x2
        simp only [upN] at l1x2d0 l1x2d1
        have HO1 := Lib.hid O1
        clear O1
        gi_wp2
        refine ⟨trivial, rfl, (callR _ (HTK.out _)).mono ?_⟩
        rintro e w2 ⟨rfl, hb2⟩
        have O2 := Own.grow' hb2 HO1.out
        try simp only [List.setIfInBounds_toArray, List.set_cons_zero, List.set_cons_succ] at O2
        have bw2 : Below w.heap.size w w2 := Below.trans (by go_grown) (Below.mono hb2 (by first | omega | (simp; done) | (simp; omega)))
        have zw2 := Below.size hb2
        try simp only [World.size_alloc, World.size_drew, World.size_setCell] at zw2
        have kk2 := Keep.below (Keep.refl (fun b => ((S b ∧ b < w0.heap.size) ∨ b = b4 + 1) ∨ W2.heap.size ≤ b) w) hb2
        have hwc2 : Below w.heap.size w w2 := Below.trans (by go_grown) (Below.mono hb2 (by first | omega | (simp; done) | (simp; omega)))
        clear c1x0 f1x0 l1x0 l1x0d0 l1x0d1 c1x1 f1x1 l1x1 l1x1d0 l1x1d1 c1x2 f1x2 l1x2 l1x2d0 l1x2d1
        have c2x0 := Own.cell O2 0 rfl
        have f2x0 := Own.free O2 0 rfl
        have l2x0 := Own.lt O2 0 rfl
        have l2x0d0 := le_up 0 l2x0
        have l2x0d1 := le_up 1 l2x0
        simp only [upN] at l2x0d0 l2x0d1
        have c2x1 := Own.cell O2 1 rfl
        have f2x1 := Own.free O2 1 rfl
        have l2x1 := Own.lt O2 1 rfl
        have l2x1d0 := le_up 0 l2x1
        have l2x1d1 := le_up 1 l2x1
        simp only [upN] at l2x1d0 l2x1d1
        have c2x2 := Own.cell O2 2 rfl
        have f2x2 := Own.free O2 2 rfl
        have l2x2 := Own.lt O2 2 rfl
        have l2x2d0 := le_up 0 l2x2
        have l2x2d1 := le_up 1 l2x2
        simp only [upN] at l2x2d0 l2x2d1
        have HO2 := Lib.hid O2
        clear O2 hb2
        gi_wp2
        obtain ⟨V3, hV3⟩ : ∃ V3, V3 = (((((w2.setCell ⟨b4, 0, none⟩ (.int .u64 g1.l)).setCell ⟨b4, 1, none⟩ (.int .u64 g1.lo)).setCell ⟨b4, 2, none⟩ (.int .u64 g1.hi)).setCell ⟨b4, 3, none⟩ (.int .u64 g1.a)).alloc (.cells #[.int .u64 g1.l, .int .u64 g1.lo, .int .u64 g1.hi, .int .u64 g1.a] 25)) := ⟨_, rfl⟩
        rw [← hV3]
        have hj3 : J k V3 := by rw [hV3]; exact (HJ.out.alloc (.cells #[.int .u64 g1.l, .int .u64 g1.lo, .int .u64 g1.hi, .int .u64 g1.a] 25) (HJ.out.setCell (b := b4) (.int .u64 g1.a) 3 (HJ.out.setCell (b := b4) (.int .u64 g1.hi) 2 (HJ.out.setCell (b := b4) (.int .u64 g1.lo) 1 (HJ.out.setCell (b := b4) (.int .u64 g1.l) 0 (HJ.out.grow HJV.out hwc2) (by omega)) (by omega)) (by omega)) (by omega)))
        have ow3 : Own [(b4, #[.int .u64 g1.l, .int .u64 g1.lo, .int .u64 g1.hi, .int .u64 g1.a], 25), (W0.heap.size, #[.func (.yield l) #[] #[]], 87)] V3 := by rw [hV3]; exact Own.eqv (Own.tl (Own.tl (Own.new (Own.set (Own.set (Own.set (Own.set HO2.out 1 rfl (Ne1.cons (by first | omega | (simp; omega)) (Ne1.cons (by first | omega | (simp; omega)) Ne1.nil))) 1 rfl (Ne1.cons (by first | omega | (simp; omega)) (Ne1.cons (by first | omega | (simp; omega)) Ne1.nil))) 1 rfl (Ne1.cons (by first | omega | (simp; omega)) (Ne1.cons (by first | omega | (simp; omega)) Ne1.nil))) 1 rfl (Ne1.cons (by first | omega | (simp; omega)) (Ne1.cons (by first | omega | (simp; omega)) Ne1.nil))) (w2.heap.size) (by first | rfl | simp)))) (by simp only [List.setIfInBounds_toArray, List.set_cons_zero, List.set_cons_succ])
        have kp3 : Keep (fun b => ((S b ∧ b < w0.heap.size) ∨ b = b4 + 1) ∨ W2.heap.size ≤ b) w V3 := by rw [hV3]; exact (Keep.alloc (Keep.setCell (Keep.setCell (Keep.setCell (Keep.setCell kk2 _ _ (.inl (by rintro ((⟨_, h⟩ | h) | h) <;> (dsimp only at h; omega)))) _ _ (.inl (by rintro ((⟨_, h⟩ | h) | h) <;> (dsimp only at h; omega)))) _ _ (.inl (by rintro ((⟨_, h⟩ | h) | h) <;> (dsimp only at h; omega)))) _ _ (.inl (by rintro ((⟨_, h⟩ | h) | h) <;> (dsimp only at h; omega)))) _)
        have cy := Own.cell ow3 1 rfl
        have cg := Own.cell ow3 0 rfl
        have OW3 := Lib.hid ow3
        have KP3 := Lib.hid kp3
        clear hV3 ow3 kp3 c2x0 f2x0 l2x0 l2x0d0 l2x0d1 c2x1 f2x1 l2x1 l2x1d0 l2x1d1 c2x2 f2x2 l2x2 l2x2d0 l2x2d1
        gi_wp2
        refine ⟨fun _ h => (by cases h), ?_⟩
        gi_wp2
        exact ⟨KP3.out.mono (fun q hq => .inr hq), rfl, .inl hj3⟩

  case done =>
    rintro V ⟨hkm, hj, ho, hk⟩ hD
    have hml := HM.out.1
    have he : cs.length = (zsG g cs m).length := by rw [zsG_len]; omega
    rw [he] at hj
    go_wp2_with fail
    try rw [Exit.noGoto_normal]
    exact end_mark1 hD (results_none rfl _ _ _) ⟨⟨_, rfl⟩, .inl (HJ.out.putObj _ hj (by omega))⟩
  case stop =>
    rintro c k V hkn ⟨rfl, hj⟩ hD
    go_wp2_with fail
    refine end_mark1 hD (results_none rfl _ _ _) ⟨⟨_, rfl⟩, ?_⟩
    rw [zsG_len]
    exact hj.imp (fun hj => HJ.out.putObj _ hj (by omega)) (fun ⟨j, hjm, hj⟩ => ⟨j, hjm, HX.out.putObj _ hj (by omega)⟩)
end Go.Proofs.Ytjmplababaejaaa
