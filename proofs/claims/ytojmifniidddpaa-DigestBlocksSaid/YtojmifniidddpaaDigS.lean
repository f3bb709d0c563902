/- The digest as a word, both. -/
import Derived.Test.YtojmifniidddpaaDigQ
import Derived.Test.YtojmifniidddpaaDRf
import Derived.Test.YtojmifniidddpaaCut
set_option linter.unusedVariables false
set_option linter.unusedSimpArgs false
namespace Go.Proofs.Ytojmifniidddpaa
open Go.RowKit

abbrev nI (xs : List Nat) : List Int := xs.map fun x => ((x : Nat) : Int)
theorem sumP_any (b : Nat) (l : List Prt) (t : TypeId) (xs : List Nat) (w : World) (hb : Blk w b (l.map Prt.v).toArray t) (hp : ∀ p ∈ l, p.ok w) (hk : l.length ≤ 1000) (hx : catP l = nI xs) (hn : xs.length ≤ 100000) (hb8 : ∀ x ∈ xs, x < 256) :
    Calls Try.prog 16 #[.slice (some ⟨b, 0, none⟩) l.length l.length] w fun e w' => e = .returned (.agg (arr32 fun j => ((sumG xs j : Nat) : Int))) ∧ Below w.heap.size w w' :=
  sum_any _ l l.length xs w (SlAt.of_blk hb) hp hk (Nat.le_refl _) hx hn hb8
theorem sum1_any (A : Option Addr) (cap b : Nat) (t : TypeId) (xs : List Nat) (w : World) (hb : Blk w b #[.slice A xs.length cap] t) (hS : SlAt w A (natC xs)) (hcap : xs.length ≤ cap) (hnil : A = none → xs.length = 0 ∧ cap = 0) (hn : xs.length ≤ 100000) (hb8 : ∀ x ∈ xs, x < 256) :
    Calls Try.prog 16 #[.slice (some ⟨b, 0, none⟩) 1 1] w fun e w' => e = .returned (.agg (arr32 fun j => ((sumG xs j : Nat) : Int))) ∧ Below w.heap.size w w' :=
  sumP_any b [⟨A, nI xs, cap⟩] t xs w (by rw [show ([⟨A, nI xs, cap⟩] : List Prt).map Prt.v = [.slice A xs.length cap] by simp [Prt.v, nI]]; exact hb) (fun p hp => by
    rw [List.mem_singleton] at hp
    subst hp
    exact ⟨hS, by simpa using hcap, fun h => ⟨by have := (hnil h).1; simpa [nI] using this, (hnil h).2⟩⟩) (by simp) (catP_one _) hn hb8
/-- Two parts. -/
def cut1 (A : Option Addr) (xs : List Nat) (cap k : Nat) : Prt := ⟨A, nI (xs.take k), cap⟩
def cut2 (A : Option Addr) (xs : List Nat) (cap k : Nat) : Prt := ⟨cutA A k cap, nI (xs.drop k), cap - k⟩
theorem cut1_ok {A : Option Addr} {xs : List Nat} {cap : Nat} (k : Nat) {w : World} (hS : SlAt w A (natC xs)) (hcap : xs.length ≤ cap) (hnil : A = none → xs.length = 0 ∧ cap = 0) : (cut1 A xs cap k).ok w := by
  refine ⟨?_, by simp [cut1, nI]; omega, fun h => ?_⟩
  · have := hS.firsts k
    rw [show (natC xs).take k = natC (xs.take k) by simp [natC, bytesC, List.map_take]] at this
    exact this
  · have := hnil h
    exact ⟨by simp [cut1, nI]; exact .inr (List.eq_nil_of_length_eq_zero this.1), this.2⟩
theorem cut2_ok {A : Option Addr} {xs : List Nat} {cap k : Nat} {w : World} (hk : k ≤ xs.length) (hS : SlAt w A (natC xs)) (hcap : xs.length ≤ cap) (hnil : A = none → xs.length = 0 ∧ cap = 0) : (cut2 A xs cap k).ok w := by
  refine ⟨?_, by simp [cut2, nI]; omega, fun h => ?_⟩
  · have := hS.cut k cap (by omega) (by rw [natC_len]; exact hcap)
    rw [show (natC xs).drop k = natC (xs.drop k) by simp [natC, bytesC, List.map_drop]] at this
    exact this
  · have := hnil (cutA_none h)
    exact ⟨by simp [cut2, nI]; omega, by show cap - k = 0; omega⟩
theorem cut1_v {A : Option Addr} {xs : List Nat} {cap k : Nat} (hk : k ≤ xs.length) : (cut1 A xs cap k).v = .slice A k cap := by
  simp [cut1, Prt.v, nI]; omega
theorem cut2_v (A : Option Addr) (xs : List Nat) (cap k : Nat) : (cut2 A xs cap k).v = .slice (cutA A k cap) (xs.length - k) (cap - k) := by
  simp [cut2, Prt.v, nI]
theorem nI_cat (xs : List Nat) (k : Nat) : nI (xs.take k) ++ nI (xs.drop k) = nI xs := by
  rw [← List.map_append, List.take_append_drop]
theorem sum2_any (A : Option Addr) (cap b k : Nat) (t : TypeId) (xs : List Nat) (w : World) (hk : k ≤ xs.length) (hb : Blk w b #[.slice A k cap, .slice (cutA A k cap) (xs.length - k) (cap - k)] t) (hS : SlAt w A (natC xs)) (hcap : xs.length ≤ cap) (hnil : A = none → xs.length = 0 ∧ cap = 0) (hn : xs.length ≤ 100000) (hb8 : ∀ x ∈ xs, x < 256) :
    Calls Try.prog 16 #[.slice (some ⟨b, 0, none⟩) 2 2] w fun e w' => e = .returned (.agg (arr32 fun j => ((sumG xs j : Nat) : Int))) ∧ Below w.heap.size w w' :=
  sumP_any b [cut1 A xs cap k, cut2 A xs cap k] t xs w (by rw [List.map_cons, List.map_cons, List.map_nil, cut1_v hk, cut2_v]; exact hb) (fun p hp => by
    simp only [List.mem_cons, List.not_mem_nil, or_false] at hp
    rcases hp with rfl | rfl
    · exact cut1_ok k hS hcap hnil
    · exact cut2_ok hk hS hcap hnil) (by simp) (by rw [catP_two]; exact nI_cat xs k) hn hb8
theorem sum4_any (A : Option Addr) (cap b k : Nat) (t : TypeId) (xs : List Nat) (w : World) (hk : k ≤ xs.length) (hb : Blk w b #[.slice none 0 0, .slice A k cap, .slice none 0 0, .slice (cutA A k cap) (xs.length - k) (cap - k)] t) (hS : SlAt w A (natC xs)) (hcap : xs.length ≤ cap) (hnil : A = none → xs.length = 0 ∧ cap = 0) (hn : xs.length ≤ 100000) (hb8 : ∀ x ∈ xs, x < 256) :
    Calls Try.prog 16 #[.slice (some ⟨b, 0, none⟩) 4 4] w fun e w' => e = .returned (.agg (arr32 fun j => ((sumG xs j : Nat) : Int))) ∧ Below w.heap.size w w' :=
  sumP_any b [⟨none, [], 0⟩, cut1 A xs cap k, ⟨none, [], 0⟩, cut2 A xs cap k] t xs w (by rw [List.map_cons, List.map_cons, List.map_cons, List.map_cons, List.map_nil, cut1_v hk, cut2_v]; exact hb) (fun p hp => by
    simp only [List.mem_cons, List.not_mem_nil, or_false] at hp
    rcases hp with rfl | rfl | rfl | rfl
    · exact ⟨.inl rfl, Nat.le_refl _, fun _ => ⟨rfl, rfl⟩⟩
    · exact cut1_ok k hS hcap hnil
    · exact ⟨.inl rfl, Nat.le_refl _, fun _ => ⟨rfl, rfl⟩⟩
    · exact cut2_ok hk hS hcap hnil) (by simp) (by simp only [catP, List.flatMap_cons, List.flatMap_nil, List.nil_append, List.append_nil]; exact nI_cat xs k) hn hb8
/-- The digest as a word. -/
def wordG (xs : List Nat) : Nat → Nat := ob (fF (sumG xs) 32)
def sumL (xs : List Nat) : List Nat := (List.range 32).map (sumG xs)
theorem sumG_lt (xs : List Nat) (j : Nat) : sumG xs j < 256 := Nat.mod_lt _ (by decide)
theorem sumL_word (xs : List Nat) : limbs (ob (fR (sumL xs) (sumL xs).length)) = limbs (wordG xs) := by
  unfold wordG
  congr 2
  funext j
  have hl : (sumL xs).length = 32 := by simp [sumL]
  unfold fR fF
  rw [hl]
  by_cases hj : j < 32
  · rw [if_pos ⟨hj, by omega⟩, if_pos ⟨hj, hj⟩]
    unfold sumL
    rw [List.getD_eq_getElem?_getD, List.getElem?_map, List.getElem?_range (by omega)]
    rfl
  · rw [if_neg (by omega), if_neg (by omega)]
set_option maxRecDepth 20000 in
set_option maxHeartbeats 2000000 in
theorem digestWord_any (A : Option Addr) (xs : List Nat) (cap : Nat) (w : World) (hS : SlAt w A (natC xs)) (hcap : xs.length ≤ cap) (hnil : A = none → xs.length = 0 ∧ cap = 0) (hn : xs.length ≤ 100000) (hb8 : ∀ x ∈ xs, x < 256) :
    Calls Try.prog 17 #[.slice A xs.length cap] w fun e w' => e = .returned (.agg (limbs (wordG xs))) ∧ Below w.heap.size w w' := by
  have HS1 := Lib.hid (fun b t V (h1 : Below w.heap.size w V) h2 => sum1_any A cap b t xs V h2 (hS.grow h1) hcap hnil hn hb8)
  have hi3 : (Try.prog.info? 39).map (·.size) = some 32 := by kernel_rfl
  have HI3 := Lib.hid hi3
  have HWR := Lib.hid (fun b V (hb : Blk V b (arr32 fun j => ((sumG xs j : Nat) : Int)) 39) => show Calls Try.prog 28 #[.slice (some ⟨b, 0, none⟩) 32 32] V fun e w' => e = .returned (.tuple #[.agg (limbs (wordG xs)), .int .i64 0]) ∧ Below V.heap.size V w' by
    have h := wordRead_any (some ⟨b, 0, none⟩) (sumL xs) 32 V (by
      have := SlAt.of_blk hb
      rw [arr32_list] at this
      unfold natC sumL
      rw [List.map_map]
      exact this) (by simp [sumL]) (by simp [sumL]) (fun x hx => by
      obtain ⟨j, _, rfl⟩ := List.mem_map.1 hx
      exact sumG_lt xs j)
    rw [sumL_word] at h
    rw [show (sumL xs).length = 32 by simp [sumL]] at h
    exact h)
  clear hS hb8 hi3 hnil
  generalize wordG xs = wx at *
  generalize hln : xs.length = n at *
  go_enter Try.func17, Try.ntmps17
  go_wp2_with fail
  refine (HS1.out _ _ _ (by go_grown) (Own.get (Own.new (Own.new (Own.nil w) w.heap.size rfl) (w.heap.size + 1) (by simp)) 0 rfl)).mono ?_
  rintro e w1 ⟨rfl, hb1⟩
  have hb0 : Below w.heap.size w w1 := Below.trans (by go_grown) (Below.mono hb1 (by simp; omega))
  have hl0 : w.heap.size + 2 ≤ w1.heap.size := by have := hb1.size; simpa using this
  have hq : Blk w1 w.heap.size #[.int .u64 0, .int .u64 0, .int .u64 0, .int .u64 0] 43 := by
    unfold Blk
    rw [hb1.block w.heap.size (by simp; omega)]
    exact (World.below_alloc _ _).block _ (by simp) |>.trans (heap_alloc_new _ _)
  have HNW := Lib.hid (show Blk (w1.alloc (.cells (arr32 fun _ => 0) 39)) w1.heap.size (arr32 fun _ => 0) 39 from heap_alloc_new _ _)
  have HB0 := Lib.hid hb0
  have HQ := Lib.hid hq
  clear hb1 hb0 hq
  go_upto_region 2 with (first
    | (refine wpList_store_row rfl 39 (.tmp 3) (.tmp 8) (by with_reducible rfl) _ _ rfl rfl _ _ HNW.out HI3.out rfl (by simp [Value.oneCell']) ?_))
  refine wp_name fun V hV => ?_
  have hBV : Below w.heap.size w V := by
    rw [hV]
    exact below_setRow (HB0.out.trans ((World.below_alloc w1 _).mono HB0.out.size)) HB0.out.size _
  have hv1 : Blk V w1.heap.size (arr32 fun j => ((sumG xs j : Nat) : Int)) 39 := by rw [hV]; exact setRow_heap _ _ _ _ _ _ HNW.out
  have hq1 : Blk V w.heap.size #[.int .u64 0, .int .u64 0, .int .u64 0, .int .u64 0] 43 := by
    rw [hV]
    exact (setRow_other _ _ _ _ (by omega)).trans (HQ.out.grow (World.below_alloc _ _))
  have HV1 := Lib.hid hv1
  have HBV := Lib.hid hBV
  have HQ1 := Lib.hid hq1
  generalize w1.heap.size = b at *
  clear hV hBV hv1 HNW HB0 HQ hq1
  go_wp2_with fail
  refine (HWR.out b V HV1.out).mono ?_
  rintro e w2 ⟨rfl, hb2⟩
  have hz2 := hb2.size
  have hBW : Below w.heap.size w w2 := HBV.out.trans (hb2.mono HBV.out.size)
  have hq2 := HQ1.out.grow hb2
  have hlq := hq2.lt
  have hf0 := hq2.free 0
  have hf1 := hq2.free 1
  have hf2 := hq2.free 2
  have hf3 := hq2.free 3
  have c0 := hq2.cell 0
  have c1 := hq2.cell 1
  have c2 := hq2.cell 2
  have c3 := hq2.cell 3
  have HBW := Lib.hid hBW
  clear hBW hb2 HWR HV1 HQ1 HBV hq2
  go_wp2_with fail
  refine bodyPost_ret (v := .agg (limbs wx)) (by simp [results, Try.results17, go_sem, *]) rfl ?_
  refine ⟨rfl, ?_⟩
  have := HBW.out
  go_grown
set_option maxRecDepth 20000 in
set_option maxHeartbeats 2000000 in
theorem refWord_any (A : Option Addr) (xs : List Nat) (cap : Nat) (w : World) (hS : SlAt w A (natC xs)) (hcap : xs.length ≤ cap) (hnil : A = none → xs.length = 0 ∧ cap = 0) (hn : xs.length ≤ 100000) (hb8 : ∀ x ∈ xs, x < 256) :
    Calls Try.prog 18 #[.slice A xs.length cap] w fun e w' => e = .returned (.agg (limbs (wordG xs))) ∧ Below w.heap.size w w' := by
  have HS1 := Lib.hid (fun V (h1 : Below w.heap.size w V) => refSum_any A xs cap V (hS.grow h1) hcap hn hnil hb8)
  have HF := Lib.hid (fun V => show Calls Try.prog 20 #[.agg (arr32 fun j => ((sumG xs j : Nat) : Int))] V fun e w' => e = .returned (.agg (limbs (wordG xs))) ∧ Below V.heap.size V w' from refFrom_any (sumG xs) V (sumG_lt xs))
  clear hS hb8 hnil
  generalize wordG xs = wx at *
  generalize hln : xs.length = n at *
  go_enter Try.func18, Try.ntmps18
  go_wp2_with fail
  refine (HS1.out _ (by go_grown)).mono ?_
  rintro e w1 ⟨rfl, hb1⟩
  have hb0 : Below w.heap.size w w1 := Below.trans (by go_grown) (Below.mono hb1 (by simp))
  have hq : Blk w1 w.heap.size #[.int .u64 0, .int .u64 0, .int .u64 0, .int .u64 0] 43 := by
    unfold Blk
    rw [hb1.block w.heap.size (by simp)]
    exact heap_alloc_new _ _
  have HB0 := Lib.hid hb0
  have HQ := Lib.hid hq
  have hz0 := hb0.size
  clear hb1 hb0 hq
  go_wp2_with fail
  refine (HF.out w1).mono ?_
  rintro e w2 ⟨rfl, hb2⟩
  have hBW : Below w.heap.size w w2 := HB0.out.trans (hb2.mono hz0)
  have hq2 := HQ.out.grow hb2
  have hlq := hq2.lt
  have hf0 := hq2.free 0
  have hf1 := hq2.free 1
  have hf2 := hq2.free 2
  have hf3 := hq2.free 3
  have c0 := hq2.cell 0
  have c1 := hq2.cell 1
  have c2 := hq2.cell 2
  have c3 := hq2.cell 3
  have HBW := Lib.hid hBW
  clear hBW hb2 hq2
  go_wp2_with fail
  refine bodyPost_ret (v := .agg (limbs wx)) (by simp [results, Try.results18, go_sem, *]) rfl ?_
  refine ⟨rfl, ?_⟩
  have := HBW.out
  go_grown
end Go.Proofs.Ytojmifniidddpaa
