/- What is laid on, block by block. -/
import Derived.Test.YtojmifniidddpaaDigL
set_option linter.unusedVariables false
set_option linter.unusedSimpArgs false
namespace Go.Proofs.Ytojmifniidddpaa
open Go.RowKit

attribute [local go_sem] Oper.semAt_some
/-- Seventeen numbers. -/
def lanes (x : Nat → Nat) : Array Value := #[.int .u64 (x 0 : Nat), .int .u64 (x 1 : Nat), .int .u64 (x 2 : Nat), .int .u64 (x 3 : Nat), .int .u64 (x 4 : Nat), .int .u64 (x 5 : Nat), .int .u64 (x 6 : Nat), .int .u64 (x 7 : Nat), .int .u64 (x 8 : Nat), .int .u64 (x 9 : Nat), .int .u64 (x 10 : Nat), .int .u64 (x 11 : Nat), .int .u64 (x 12 : Nat), .int .u64 (x 13 : Nat), .int .u64 (x 14 : Nat), .int .u64 (x 15 : Nat), .int .u64 (x 16 : Nat)]
theorem lanes_at (x : Nat → Nat) {q : Nat} (h : q < 17) : (lanes x)[q]? = some (.int .u64 (x q : Nat)) := by
  rcases (by omega : q = 0 ∨ q = 1 ∨ q = 2 ∨ q = 3 ∨ q = 4 ∨ q = 5 ∨ q = 6 ∨ q = 7 ∨ q = 8 ∨ q = 9 ∨ q = 10 ∨ q = 11 ∨ q = 12 ∨ q = 13 ∨ q = 14 ∨ q = 15 ∨ q = 16) with rfl | rfl | rfl | rfl | rfl | rfl | rfl | rfl | rfl | rfl | rfl | rfl | rfl | rfl | rfl | rfl | rfl <;> rfl
theorem lanes_list (x : Nat → Nat) : lanes x = ((List.range 17).map fun q => Value.int .u64 (x q : Nat)).toArray := rfl
/-- The bytes that are laid already. -/
def fP (f : Nat → Nat) (i j : Nat) : Nat := if j < i then f j else 0
theorem fP_zero (f : Nat → Nat) : fP f 0 = fun _ => 0 := by funext j; unfold fP; rw [if_neg (by omega)]
theorem fP_free (f : Nat → Nat) (i : Nat) : fP f i i = 0 := by unfold fP; rw [if_neg (by omega)]
theorem fP_step (f : Nat → Nat) (i : Nat) : fP f (i + 1) = upd (fP f i) i (f i) := by
  funext j
  unfold fP upd
  dsimp only
  by_cases hj : j = i
  · rw [if_pos hj, if_pos (by omega), hj]
  · rw [if_neg hj]
    by_cases h : j < i
    · rw [if_pos h, if_pos (by omega)]
    · rw [if_neg h, if_neg (by omega)]
theorem fP_lt {f : Nat → Nat} (h : ∀ j, f j < 256) (i j : Nat) : fP f i j < 256 := by
  unfold fP; split
  · exact h j
  · omega
theorem ob_congr {f g : Nat → Nat} {q : Nat} (h : ∀ j, j < 8 * q + 8 → f j = g j) : ob f q = ob g q := by
  unfold ob
  rw [h _ (by omega), h _ (by omega), h _ (by omega), h _ (by omega), h _ (by omega), h _ (by omega), h _ (by omega), h _ (by omega)]
theorem lanes_congr {x y : Nat → Nat} (h : ∀ q, q < 17 → x q = y q) : lanes x = lanes y := by
  unfold lanes
  rw [h 0 (by omega), h 1 (by omega), h 2 (by omega), h 3 (by omega), h 4 (by omega), h 5 (by omega), h 6 (by omega), h 7 (by omega), h 8 (by omega), h 9 (by omega), h 10 (by omega), h 11 (by omega), h 12 (by omega), h 13 (by omega), h 14 (by omega), h 15 (by omega), h 16 (by omega)]
theorem fP_end (f : Nat → Nat) : lanes (ob (fP f 136)) = lanes (ob f) := lanes_congr fun q hq => ob_congr fun j hj => by unfold fP; rw [if_pos (by omega)]
theorem lanes_set {f : Nat → Nat} {k c : Nat} (h : f k = 0) (hk : k / 8 < 17) : (lanes (ob f)).setIfInBounds (k / 8) (.int .u64 ((ob f (k / 8) ||| sh c (8 * (k % 8)) : Nat) : Int)) = lanes (ob (upd f k c)) := by
  rw [lanes_list, lanes_list, List.setIfInBounds_toArray]
  congr 1
  apply List.ext_getElem?
  intro q
  rw [List.getElem?_set]
  by_cases hq : k / 8 = q
  · subst hq
    rw [if_pos rfl, if_pos (by simpa using hk), List.getElem?_map, List.getElem?_range (by omega), Option.map_some, ob_step h]
  · rw [if_neg hq, List.getElem?_map, List.getElem?_map]
    by_cases hq17 : q < 17
    · rw [List.getElem?_range hq17, Option.map_some, Option.map_some, ob_other (Ne.symm hq)]
    · rw [List.getElem?_eq_none (by simp; omega)]; rfl
theorem grownBy_trans {A B C : World} {r : Option Nat} (h : A.grownBy B r) (k : B.grownBy C r) : A.grownBy C r :=
  ⟨k.os.trans h.os, k.tape.trans h.tape, k.output.trans h.output, Nat.le_trans h.size k.size, fun i hi hne => (k.block i (Nat.lt_of_lt_of_le hi h.size) hne).trans (h.block i hi hne)⟩
theorem grownBy_refl (A : World) (r : Option Nat) : A.grownBy A r := ⟨rfl, rfl, rfl, Nat.le_refl _, fun _ _ _ => rfl⟩
theorem grownBy_set (A : World) (b o : Nat) (v : Value) : A.grownBy (A.setCell ⟨b, o, none⟩ v) (some b) :=
  ⟨rfl, rfl, rfl, by simp, fun k _ hk => Below.heap_setCell A ⟨b, o, none⟩ v k (fun e => hk (by rw [e]))⟩
theorem grownBy_setr {A B : World} {r : Nat} (h : A.grownBy B (some r)) (b o : Nat) (v : Value) (e : b = r := by rfl) : A.grownBy (B.setCell ⟨b, o, none⟩ v) (some r) := grownBy_trans h (by rw [← e]; exact grownBy_set B b o v)
theorem grownBy_below {A B : World} (h : Below A.heap.size A B) (r : Option Nat) : A.grownBy B r := ⟨h.os, h.tape, h.output, h.size, fun k hk _ => h.block k hk⟩
/-- A block of what is gone over, by its bytes. -/
def blkF (p : List Nat) (k j : Nat) : Nat := p.getD (k * 136 + j) 0
theorem blkF_lt {p : List Nat} (h : ∀ x ∈ p, x < 256) (k j : Nat) : blkF p k j < 256 := by
  unfold blkF
  rw [List.getD_eq_getElem?_getD]
  cases hq : p[k * 136 + j]? with
  | none => simp
  | some c => exact h c (List.mem_of_getElem? hq)
abbrev encB (p : List Nat) : Nat → Unit → Array Value := fun k _ => #[.int .i64 (k : Nat), .agg (lanes (ob (blkF p k)))]
theorem keep_grown {S : Nat → Prop} {A B C : World} {b : Nat} (h : Keep S A B) (hg : B.grownBy C (some b)) (hp : ¬ S b ∨ A.heap.size ≤ b) : Keep S A C :=
  ⟨hg.os.trans h.os, hg.tape.trans h.tape, hg.output.trans h.output, Nat.le_trans h.size hg.size, fun k hk hl => (hg.block k (Nat.lt_of_lt_of_le hl h.size) (fun e => by cases e; exact hp.elim (fun hp => hp hk) (fun hp => absurd hl (Nat.not_lt.2 hp)))).trans (h.block k hk hl)⟩
theorem own_grown {A B : World} {b : Nat} {H : List Block} (ho : Own H A) (hg : A.grownBy B (some b)) (hs : ∀ p ∈ H, p.1 ≠ b) : Own H B := fun p hp => (hg.block p.1 (ho p hp).lt (fun e => hs p hp (Option.some.inj e))).trans (ho p hp)
def BkI (J : Nat → World → Prop) (m y z : Nat) (c : Array Value) (S : Nat → Prop) (w0 : World) (k : Nat) (V : World) : Prop :=
  z ≤ V.heap.size ∧ k ≤ m ∧ J k V ∧ Own [(y + 1, #[.int .i64 (k : Nat)], 3), (y, c, 47)] V ∧ Keep S w0 V
theorem bkI_any {J : Nat → World → Prop} {m y z B : Nat} {c : Array Value} {S : Nat → Prop} {w0 : World} (hJ : AnyFrom B J) (hy : y + 2 ≤ B) (h0 : ∀ k, S k → k < B ∨ w0.heap.size ≤ k) : AnyFrom B (BkI J m y z c S w0) := fun k V V' row ⟨hz, hk, hj, ho, hkp⟩ hg hr =>
  ⟨Nat.le_trans hz hg.size, hk, hJ _ V V' row hj hg hr, any_own (β := Unit) (H := fun _ => _) (fun _ p hp => by simp only [List.mem_cons, List.not_mem_nil, or_false] at hp; rcases hp with rfl | rfl <;> (dsimp only; omega)) () V V' row ho hg hr, any_keep (β := Unit) h0 () V V' row hkp hg hr⟩
theorem Own.keep {S : Nat → Prop} {A B : World} {H : List Block} (h : Keep S A B) (ho : Own H A) (hs : ∀ p ∈ H, S p.1) : Own H B := fun p hp => h.blk (ho p hp) (hs p hp)
def InRel (f : Nat → Nat) (bx : Nat) (V1 : World) (v : Value) (wr : World) : Prop := ∃ i : Nat, i ≤ 136 ∧ v = .int .i64 i ∧ Blk wr bx (lanes (ob (fP f i))) 29 ∧ V1.grownBy wr (some bx)
set_option maxHeartbeats 8000000 in
set_option maxRecDepth 20000 in
theorem blocks1_seq (b g c m N : Nat) (p : List Nat) (w0 : World) (S : Nat → Prop) (hc : w0.cell? ⟨b, 0, none⟩ = some (.slice (some ⟨g, 0, none⟩) N c)) (hp : ∀ j u, (natC p)[j]? = some u → w0.cell? ⟨g, j, none⟩ = some u) (hpl : p.length = N) (hN : N = m * 136) (hcap : N ≤ c) (hn : m ≤ 1000) (hb8 : ∀ x ∈ p, x < 256) (hb : S b) (hg : S g) (hgl : g < w0.heap.size) :
    Seq Try.prog 22 #[.pointer (some ⟨b, 0, none⟩)] (encB p) (units m) S w0 := by
  intro l J Jx W0 hW hJ hJx hY h0
  have hlt := World.block_lt_of_cell? w0 ⟨b, 0, none⟩ hc
  have hzW := hW.size
  have hcW : ∀ o o2 : Obj, ((W0.alloc o).alloc o2).cell? ⟨b, 0, none⟩ = some (.slice (some ⟨g, 0, none⟩) N c) := fun o o2 => kept (World.below_alloc _ o2) (kept (World.below_alloc W0 o) (hW.cell hc hb))
  have HP := Lib.hid hp
  have HY := Lib.hid hY
  have HJ := Lib.hid hJ
  have HX := Lib.hid hJx
  have HW := Lib.hid (hW.mono (S' := fun k => S k ∧ k < w0.heap.size) (fun k hk => hk.1))
  have HPL := Lib.hid (show p.length = m * 136 by omega)
  have HB8 := Lib.hid hb8
  have HCH := Lib.hid (fun b b2 V S hc hc2 hb hb2 => chunk1_seq b b2 g m N c V S hc hc2 hN hcap hn hb hb2)
  have hN1 : 1 ≤ N ∨ N = 0 := by omega
  clear hY hJ hJx hp hW hb8 hpl hN
  refine calls_marks Try.func22 rfl ?_
  simp only [Try.ntmps22, List.size_toArray, List.length_cons, List.length_nil, Nat.reduceAdd, Nat.reduceSub, Array.replicate_succ, Array.replicate_zero, List.push_toArray, List.append_toArray, List.nil_append, List.cons_append]
  go_wp2_with fail
  go_step3
  go_wp2_with fail
  refine wp_label ?_
  go_wp2_with fail
  refine (chunk_any (some ⟨g, 0, none⟩) N c _).mono ?_
  rintro e w1 ⟨rfl, rfl⟩
  clear hcW
  go_wp2_with fail
  refine wp_name fun W2 hW2 => ?_
  have hz2 : W2.heap.size = W0.heap.size + 4 := by rw [hW2]; simp
  have hkW : Keep (fun k => S k ∧ k < w0.heap.size) w0 W2 := by rw [hW2]; exact (((HW.out.alloc _).alloc _).alloc _).alloc _
  have hj2 : J 0 W2 := by rw [hW2]; exact HJ.out.alloc _ (HJ.out.alloc _ (HJ.out.alloc _ (HJ.out.alloc _ h0)))
  have hO2 : Own [(W0.heap.size + 3, #[.int .i64 136], 3), (W0.heap.size + 2, #[.slice (some ⟨g, 0, none⟩) N c], 22), (W0.heap.size + 1, #[.int .i64 0], 3), (W0.heap.size, #[.func (.yield l) #[] #[]], 47)] W2 := by
    rw [hW2]; exact Own.new (Own.new (Own.new (Own.new (Own.nil W0) _ rfl) _ (by simp)) _ (by simp)) _ (by simp)
  have hv2 := Own.cell hO2 1 rfl
  have hv3 := Own.cell hO2 0 rfl
  clear hW2
  try rw [World.size_alloc, World.size_alloc]
  refine wp_each (w0 := W2) (xs := units m) (encs := encC g) (S := fun k => k = W0.heap.size + 2 ∨ k = W0.heap.size + 3) rfl (enters_of Try.func30 (by kernel_rfl) rfl)
    (HCH.out (W0.heap.size + 2) (W0.heap.size + 3) W2 _ (by rw [(hv2 0)]; rfl) (by rw [(hv3 0)]; rfl) (.inl rfl) (.inr rfl)) (fun k hk => by rcases hk with hk | hk <;> omega) (Keep.refl _ _) (fun _ _ => rfl)
    (BkI J m W0.heap.size W2.heap.size #[.func (.yield l) #[] #[]] (fun k => S k ∧ k < w0.heap.size) w0) (fun c _ V => c = .exit 0 ∧ (J m V ∨ ∃ j, j ≤ m ∧ Jx j V)) ?hI ?hIx ?h0 ?round ?done ?stop
  case hI => exact bkI_any (HJ.out.mono (by omega)) (by omega) (fun k hk => by omega)
  case hIx =>
    exact fun c k V V' row ⟨h, hj⟩ hg hr => ⟨h, hj.imp (fun hj => HJ.out.mono (by omega) _ V V' row hj hg hr) (fun ⟨j, hjm, hj⟩ => ⟨j, hjm, HX.out.mono (by omega) _ V V' row hj hg hr⟩)⟩
  case h0 => exact ⟨Nat.le_refl _, Nat.zero_le _, hj2, Own.tl (Own.tl hO2), hkW⟩
  case round =>
    intro l' k x V hx hE hl'
    gi_wp2
    refine ⟨Keep.refl _ _, fun V' => BkI J m W0.heap.size W2.heap.size #[.func (.yield l) #[] #[]] (fun k => S k ∧ k < w0.heap.size) w0 k V', ?own, hE, ?body⟩
    case own => exact fun _ V V' row hE hg hr => (bkI_any (HJ.out.mono (by omega)) (by omega) (fun k hk => by omega)).from k V V' row hE hg hr
    case body =>
      clear hE
      rintro w ⟨hzw, hkm, hjV, hOV, hkV⟩
      have hkm' : k < m := by have := (List.getElem?_eq_some_iff.1 hx).1; rwa [units_len] at this
      have HJV := Lib.hid hjV
      have HOV := Lib.hid hOV
      have HKV := Lib.hid hkV
      have HPP : ∀ i, i < 136 → w.cell? ⟨g, k * 136 + i, none⟩ = some (.int .u8 ((blkF p k i : Nat) : Int)) := fun i hi => by
        have hl : k * 136 + i < p.length := by rw [HPL.out]; omega
        exact HKV.out.cell (HP.out (k * 136 + i) _ (natC_at (by unfold blkF; rw [List.getD_eq_getElem?_getD, List.getElem?_eq_getElem hl]; rfl))) ⟨hg, hgl⟩
      have HPQ := Lib.hid HPP
      have HF := Lib.hid (blkF_lt HB8.out k)
      have hgw : g < w.heap.size := Nat.lt_of_lt_of_le hgl hkV.size
      clear hjV hOV hkV HPP
      generalize hff : blkF p k = f at *
      gi_wp2
      gi_loopw [13] (fun v wr => InRel f w.heap.size (w.alloc (.cells #[.int .u64 0, .int .u64 0, .int .u64 0, .int .u64 0, .int .u64 0, .int .u64 0, .int .u64 0, .int .u64 0, .int .u64 0, .int .u64 0, .int .u64 0, .int .u64 0, .int .u64 0, .int .u64 0, .int .u64 0, .int .u64 0, .int .u64 0] 29)) v wr) (fun v _ => 136 - (intOf v).toNat)
      case atStart =>
        refine ⟨0, Nat.zero_le _, rfl, ?_, grownBy_refl _ _⟩
        rw [fP_zero]
        unfold Blk lanes
        simp only [ob_none]
        exact heap_alloc_new _ _
      case round =>
        obtain ⟨i, hi, rfl, hblk, hgr⟩ := hrel
        have hsz := hgr.size
        rw [World.size_alloc] at hsz
        by_cases hlt' : i < 136
        · have hc0 : wr.cell? ⟨g, k * 136 + i, none⟩ = some (.int .u8 ((f i : Nat) : Int)) := by
            have h1 := kept (World.below_alloc w (.cells #[.int .u64 0, .int .u64 0, .int .u64 0, .int .u64 0, .int .u64 0, .int .u64 0, .int .u64 0, .int .u64 0, .int .u64 0, .int .u64 0, .int .u64 0, .int .u64 0, .int .u64 0, .int .u64 0, .int .u64 0, .int .u64 0, .int .u64 0] 29)) (HPQ.out i hlt')
            have h2 := hgr.block g (by simp; omega) (by simp; omega)
            unfold World.cell? at h1 ⊢
            rw [h2]
            exact h1
          have hlb := hblk.lt
          gi_wp2
          gi_wp2
          refine regInG (by kernel_rfl) (fun ⟨_, _, h⟩ => h) wr.heap.size 12 0 0 [(0, 0, 262144, 64), (1, 1, 524288, 262144), (2, 2, 1048576, 524320), (3, 4, 2097152, 1048576), (4, 0, 4194304, 128), (5, 16, 8388608, 4194304), (6, 0, 16777216, 64), (7, 64, 33554432, 16777216), (8, 128, 67108864, 33554432), (9, 288, 134217728, 75497472), (10, 520, 268435456, 136314880), (11, 2047, 536870912, 524320), (12, 4095, 0, 805306368)] [(.p 0, 1), (.p 1, 3), (.p 2, 7), (.p 3, 15), (.p 4, 31), (.p 5, 63), (.p 6, 127), (.p 7, 255), (.p 8, 511), (.p 9, 1023), (.p 10, 2047), (.p 11, 4095)] [(12, 8191)] _ (fun p hp => hp) (by first | omega | (simp; done) | (simp; omega)) (by kernel_rfl) (by kernel_rfl) (own1 hblk) ?_
          refine wpG_move (i := 0) rfl rfl rfl (by rfl) rfl ?_
          simp only [List.set_cons_zero, List.set_cons_succ]
          refine wpG_pure (i := 1) (v := ?v1x1) rfl rfl (by rfl) (fun w hB hG K hK => ?h1x1) ?_
          case h1x1 =>
            go_wp2_with fail
            exact hK _ (Below.refl _ _)
          simp only [List.set_cons_zero, List.set_cons_succ]
          refine wpG_pure (i := 2) (v := ?v1x2) rfl rfl (by rfl) (fun w hB hG K hK => ?h1x2) ?_
          case h1x2 =>
            go_wp2_with fail
            exact hK _ (Below.refl _ _)
          simp only [List.set_cons_zero, List.set_cons_succ]
          refine wpG_pure (i := 3) (v := ?v1x3) rfl rfl (by rfl) (fun w hB hG K hK => ?h1x3) ?_
          case h1x3 =>
            have hcx := (hG.cell 0 rfl (i / 8)).trans (lanes_at (ob (fP f i)) (show i / 8 < 17 by omega))
            have cx := Own.cell hG 0 rfl
            go_wp2_with fail
            exact hK _ (Below.refl _ _)
          simp only [List.set_cons_zero, List.set_cons_succ]
          refine wpG_move (i := 4) rfl rfl rfl (by rfl) rfl ?_
          simp only [List.set_cons_zero, List.set_cons_succ]
          refine wpG_pure (i := 5) (v := ?v1x5) rfl rfl (by rfl) (fun w hB hG K hK => ?h1x5) ?_
          case h1x5 =>
            go_wp2_with fail
            exact hK _ (Below.refl _ _)
          simp only [List.set_cons_zero, List.set_cons_succ]
          refine wpG_move (i := 6) rfl rfl rfl (by rfl) rfl ?_
          simp only [List.set_cons_zero, List.set_cons_succ]
          refine wpG_pure (i := 7) (v := ?v1x7) rfl rfl (by rfl) (fun w hB hG K hK => ?h1x7) ?_
          case h1x7 =>
            go_wp2_with fail
            exact hK _ (Below.refl _ _)
          simp only [List.set_cons_zero, List.set_cons_succ]
          refine wpG_pure (i := 8) (v := ?v1x8) rfl rfl (by rfl) (fun w hB hG K hK => ?h1x8) ?_
          case h1x8 =>
            go_wp2_with fail
            exact hK _ (Below.refl _ _)
          simp only [List.set_cons_zero, List.set_cons_succ]
          refine wpG_pure (i := 9) (v := ?v1x9) rfl rfl (by rfl) (fun w hB hG K hK => ?h1x9) ?_
          case h1x9 =>
            go_wp2_with fail
            exact hK _ (Below.refl _ _)
          simp only [List.set_cons_zero, List.set_cons_succ]
          refine wpG_pure (i := 10) (v := ?v1x10) rfl rfl (by rfl) (fun w hB hG K hK => ?h1x10) ?_
          case h1x10 =>
            go_wp2_with fail
            exact hK _ (Below.refl _ _)
          simp only [List.set_cons_zero, List.set_cons_succ]
          refine wpG_pure (i := 11) (v := ?v1x11) rfl rfl (by rfl) (fun w hB hG K hK => ?h1x11) ?_
          case h1x11 =>
            go_wp2_with fail
            exact hK _ (Below.refl _ _)
          simp only [List.set_cons_zero, List.set_cons_succ]
          refine wpG_nil (fun w1 hb1 hG1 => ?_)
          simp only [List.append_eq, List.cons_append, List.nil_append, List.drop_succ_cons, List.drop_zero, List.drop_nil]
          have O1 := Own.of hG1
          try simp only [List.setIfInBounds_toArray, List.set_cons_zero, List.set_cons_succ] at O1
          have bw1 : Below wr.heap.size wr w1 := Below.trans (by go_grown) (Below.mono hb1 (by first | omega | (simp; done) | (simp; omega)))
          have zw1 := Below.size hb1
          try simp only [World.size_alloc, World.size_drew, World.size_setCell] at zw1
          have c1x0 := Own.cell O1 0 rfl
          have f1x0 := Own.free O1 0 rfl
          have l1x0 := Own.lt O1 0 rfl
          have l1x0d0 := le_up 0 l1x0
          have l1x0d1 := le_up 1 l1x0
          simp only [upN] at l1x0d0 l1x0d1
          have HO1 := Lib.hid O1
          clear O1 hb1
          
          have hcs := (HO1.out.cell 0 rfl (i / 8)).trans (lanes_at (ob (fP f i)) (show i / 8 < 17 by omega))
          have hfs : w1.frozen? ⟨w.heap.size, i / 8, none⟩ = false := HO1.out.free 0 rfl (i / 8)
          have hbk := Blk.set (HO1.out.get 0 rfl) (i / 8) (.int .u64 ((ob (fP f i) (i / 8) ||| sh (f i) (8 * (i % 8)) : Nat) : Int))
          rw [lanes_set (fP_free f i) (by omega), ← fP_step f i] at hbk
          have hgw1 := grownBy_setr (grownBy_trans hgr (grownBy_below bw1 (some w.heap.size))) w.heap.size (i / 8) (.int .u64 ((ob (fP f i) (i / 8) ||| sh (f i) (8 * (i % 8)) : Nat) : Int))
          have hor := or_sh (ob_lt (fP_lt HF.out i) (i / 8)) (HF.out i) i
          have HK := Lib.hid hbk
          have HG := Lib.hid hgw1
          clear hbk hgw1 bw1 hc0 c1x0
          go_wp2_with fail
          gi_wp2
          exact ⟨⟨i + 1, by omega, by go_num, HK.out, HG.out⟩, by simp [intOf]; omega⟩
        · obtain rfl : i = 136 := by omega
          have hblk1 : Blk wr w.heap.size (lanes (ob f)) 29 := by rw [← fP_end]; exact hblk
          have hJ1 : J k wr := HJ.out _ _ _ (some w.heap.size) (HJ.out.alloc (.cells #[.int .u64 0, .int .u64 0, .int .u64 0, .int .u64 0, .int .u64 0, .int .u64 0, .int .u64 0, .int .u64 0, .int .u64 0, .int .u64 0, .int .u64 0, .int .u64 0, .int .u64 0, .int .u64 0, .int .u64 0, .int .u64 0, .int .u64 0] 29) HJV.out) hgr (fun r e => by cases e; omega)
          have ho1 : Own [(W0.heap.size + 1, #[.int .i64 (k : Nat)], 3), (W0.heap.size, #[.func (.yield l) #[] #[]], 47)] wr := own_grown (Own.grow HOV.out (World.below_alloc w _)) hgr (by simp only [List.mem_cons, List.not_mem_nil, or_false, forall_eq_or_imp, forall_eq]; exact ⟨by omega, by omega⟩)
          have hk1 : Keep (fun k => S k ∧ k < w0.heap.size) w0 wr := keep_grown (HKV.out.alloc _) hgr (.inl (fun h => by omega))
          have hk2 : Keep (fun b => (b = W0.heap.size + 2 ∨ b = W0.heap.size + 3) ∨ W2.heap.size ≤ b) w wr := keep_grown ((Keep.refl _ _).alloc _) hgr (.inr (Nat.le_refl _))
          have q0 : wr.cell? ⟨w.heap.size, 0, none⟩ = some (.int .u64 ((ob f 0 : Nat) : Int)) := hblk1.cell 0
          have q1 : wr.cell? ⟨w.heap.size, 1, none⟩ = some (.int .u64 ((ob f 1 : Nat) : Int)) := hblk1.cell 1
          have q2 : wr.cell? ⟨w.heap.size, 2, none⟩ = some (.int .u64 ((ob f 2 : Nat) : Int)) := hblk1.cell 2
          have q3 : wr.cell? ⟨w.heap.size, 3, none⟩ = some (.int .u64 ((ob f 3 : Nat) : Int)) := hblk1.cell 3
          have q4 : wr.cell? ⟨w.heap.size, 4, none⟩ = some (.int .u64 ((ob f 4 : Nat) : Int)) := hblk1.cell 4
          have q5 : wr.cell? ⟨w.heap.size, 5, none⟩ = some (.int .u64 ((ob f 5 : Nat) : Int)) := hblk1.cell 5
          have q6 : wr.cell? ⟨w.heap.size, 6, none⟩ = some (.int .u64 ((ob f 6 : Nat) : Int)) := hblk1.cell 6
          have q7 : wr.cell? ⟨w.heap.size, 7, none⟩ = some (.int .u64 ((ob f 7 : Nat) : Int)) := hblk1.cell 7
          have q8 : wr.cell? ⟨w.heap.size, 8, none⟩ = some (.int .u64 ((ob f 8 : Nat) : Int)) := hblk1.cell 8
          have q9 : wr.cell? ⟨w.heap.size, 9, none⟩ = some (.int .u64 ((ob f 9 : Nat) : Int)) := hblk1.cell 9
          have q10 : wr.cell? ⟨w.heap.size, 10, none⟩ = some (.int .u64 ((ob f 10 : Nat) : Int)) := hblk1.cell 10
          have q11 : wr.cell? ⟨w.heap.size, 11, none⟩ = some (.int .u64 ((ob f 11 : Nat) : Int)) := hblk1.cell 11
          have q12 : wr.cell? ⟨w.heap.size, 12, none⟩ = some (.int .u64 ((ob f 12 : Nat) : Int)) := hblk1.cell 12
          have q13 : wr.cell? ⟨w.heap.size, 13, none⟩ = some (.int .u64 ((ob f 13 : Nat) : Int)) := hblk1.cell 13
          have q14 : wr.cell? ⟨w.heap.size, 14, none⟩ = some (.int .u64 ((ob f 14 : Nat) : Int)) := hblk1.cell 14
          have q15 : wr.cell? ⟨w.heap.size, 15, none⟩ = some (.int .u64 ((ob f 15 : Nat) : Int)) := hblk1.cell 15
          have q16 : wr.cell? ⟨w.heap.size, 16, none⟩ = some (.int .u64 ((ob f 16 : Nat) : Int)) := hblk1.cell 16
          have cy := Own.cell ho1 1 rfl
          have ca := Own.cell ho1 0 rfl
          have fa := Own.free ho1 0 rfl
          have hlx := hblk1.lt
          have HO1 := Lib.hid ho1
          have HK1 := Lib.hid hk1
          have HK2 := Lib.hid hk2
          obtain ⟨fn, tmps, assign, body, hyy, hR⟩ := HY.out k () wr (units_at hkm') hJ1
          try simp only [encB, lanes, hff] at hyy
          clear hblk hblk1 ho1 hk1 hk2 hgr
          gi_wp2
          refine ⟨rfl, (show RoundIn (Fence.wide.inRound l') 0 _ _ _ _ _ _ _ _ from hR).mono ?_⟩
          clear q0 q1 q2 q3 q4 q5 q6 q7 q8 q9 q10 q11 q12 q13 q14 q15 q16 hyy hR
          rintro e V4 (⟨rfl, hJ4, hk4⟩ | ⟨rfl, hJx4, hk4⟩)
          · have ho4 := Own.keep hk4 HO1.out (by simp only [List.mem_cons, List.not_mem_nil, or_false, forall_eq, forall_eq_or_imp]; exact ⟨.inr (by omega), .inr (Nat.le_refl _)⟩)
            have cy := Own.cell ho4 1 rfl
            have ca := Own.cell ho4 0 rfl
            have fa := Own.free ho4 0 rfl
            have hz4 := hk4.size
            have HO4 := Lib.hid ho4
            have HK4 := Lib.hid hk4
            have HJ4 := Lib.hid hJ4
            clear ho4 hk4 hJ4 hJ1
            gi_wp2
            have hk5 : Keep (fun b => (b = W0.heap.size + 2 ∨ b = W0.heap.size + 3) ∨ W2.heap.size ≤ b) wr V4 := HK4.out.mono (fun q hq => .inr (by omega))
            have hk6 : Keep (fun k => S k ∧ k < w0.heap.size) wr V4 := HK4.out.mono (fun q hq => .inl hq.1)
            have ho5 : Own [(W0.heap.size + 1, #[.int .i64 ((k : Int) + 1)], 3), (W0.heap.size, #[.func (.yield l) #[] #[]], 47)] (V4.setCell ⟨W0.heap.size + 1, 0, none⟩ (.int .i64 ((k : Int) + 1))) :=
              Own.cons (by have := (HO4.out.get 0 rfl).set 0 (.int .i64 ((k : Int) + 1)); simpa using this) (Own.cons (Blk.other (HO4.out.get 1 rfl) (by omega) 0 _) (Own.nil _))
            rw [show ((k : Int) + 1) = ((k + 1 : Nat) : Int) by omega] at ho5 ⊢
            exact ⟨(HK2.out.trans hk5).setCell _ _ (.inl (by rintro ((h | h) | h) <;> (dsimp only at h; omega))), by rw [World.size_setCell]; have := hk5.size; have := HK2.out.size; omega, by omega, HJ.out.setCell (b := W0.heap.size + 1) _ 0 HJ4.out (by omega), ho5, ((HK1.out.trans hk6).setCell _ _ (.inl (fun h => by have := h.2; dsimp only at this; omega)))⟩
          · gi_wp2
            have hk5 : Keep (fun b => W2.heap.size ≤ b) wr V4 := hk4.mono (fun q hq => by omega)
            exact ⟨(HK2.out.mono (fun q hq => .inr hq)).trans hk5, rfl, .inr ⟨k + 1, by omega, hJx4⟩⟩
  case done =>
    rintro V ⟨hz, hkm, hj, ho, hk⟩ hD
    go_wp2_with fail
    exact end_mark1 hD (results_none rfl _ _ _) ⟨⟨_, rfl⟩, .inl (HJ.out.putObj _ hj (by omega))⟩
  case stop =>
    rintro c k V hkn ⟨rfl, hj⟩ hD
    go_wp2_with fail
    refine end_mark1 hD (results_none rfl _ _ _) ⟨⟨_, rfl⟩, ?_⟩
    rw [units_len]
    exact hj.imp (fun hj => HJ.out.putObj _ hj (by omega)) (fun ⟨j, hjm, hj⟩ => ⟨j, hjm, HX.out.putObj _ hj (by omega)⟩)
end Go.Proofs.Ytojmifniidddpaa
