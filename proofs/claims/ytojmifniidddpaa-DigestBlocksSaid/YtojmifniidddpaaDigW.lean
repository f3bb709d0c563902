/- The rows of the chapter: works. -/
import Derived.Test.YtojmifniidddpaaDigV
set_option linter.unusedVariables false
set_option linter.unusedSimpArgs false
namespace Go.Proofs.Ytojmifniidddpaa
open Go.RowKit

theorem calls_name {P : Program} {f : FuncId} {args : Array Value} {w : World} {Q : Ending → World → Prop} (h : ∀ W, W = w → Calls P f args W Q) : Calls P f args w Q := h w rfl
theorem sum0_any (w : World) : Calls Try.prog 16 #[.slice none 0 0] w fun e w' => e = .returned (.agg (arr32 fun j => ((emG j : Nat) : Int))) ∧ Below w.heap.size w w' := by
  have h := sum_any none [] 0 [] w (.inl rfl) (fun p hp => by cases hp) (by decide) (by decide) rfl (by decide) (fun x hx => by cases hx)
  rw [show arr32 (fun j => ((emG j : Nat) : Int)) = arr32 (fun j => ((sumG [] j : Nat) : Int)) from arr32_congr fun j hj => by rw [em_sum hj]; rfl]
  exact h
theorem text0_any (w : World) : Calls Try.prog 19 #[.agg (limbs emX)] w fun e w' => e = .returned (.string ⟨#[48, 120, 99, 53, 100, 50, 52, 54, 48, 49, 56, 54, 102, 55, 50, 51, 51, 99, 57, 50, 55, 101, 55, 100, 98, 50, 100, 99, 99, 55, 48, 51, 99, 48, 101, 53, 48, 48, 98, 54, 53, 51, 99, 97, 56, 50, 50, 55, 51, 98, 55, 98, 102, 97, 100, 56, 48, 52, 53, 100, 56, 53, 97, 52, 55, 48]⟩) ∧ Below w.heap.size w w' := by
  rw [← em_text]
  exact refText_any emX w emX_lt
def zero24 : Array Value := #[.int .u64 0, .int .u64 0, .int .u64 0, .int .u64 0, .int .u64 0, .int .u64 0, .int .u64 0, .int .u64 0, .int .u64 0, .int .u64 0, .int .u64 0, .int .u64 0, .int .u64 0, .int .u64 0, .int .u64 0, .int .u64 0, .int .u64 0, .int .u64 0, .int .u64 0, .int .u64 0, .int .u64 0, .int .u64 0, .int .u64 0, .int .u64 0]
def constsC : Array Value := (consts.map fun n => Value.int .u64 n).toArray
set_option maxRecDepth 20000 in
set_option maxHeartbeats 1000000 in
theorem works_any (w : World) : Calls Try.prog 7 #[] w fun e w' => e = .returned (.bool true) ∧ Below w.heap.size w w' := by
  have hi3 : (Try.prog.info? 39).map (·.size) = some 32 := by kernel_rfl
  have hu3 : Try.prog.underlying 39 = some (.array 32 5) := by kernel_rfl
  have hi4 : (Try.prog.info? 33).map (·.size) = some 24 := by kernel_rfl
  have HI3 := Lib.hid hi3
  have HU3 := Lib.hid hu3
  have HI4 := Lib.hid hi4
  clear hi3 hu3 hi4
  go_enter Try.func7, Try.ntmps7
  go_wp2_with fail
  refine (consts_calls _).mono ?_
  rintro e w1 ⟨rfl, hb1⟩
  have HNW := Lib.hid (show Blk (w1.alloc (.cells zero24 33)) w1.heap.size zero24 33 from heap_alloc_new _ _)
  have HB1 := Lib.hid hb1
  have hz1 := hb1.size
  clear hb1
  go_wp2_with (first
    | (refine wpList_store_row rfl 33 (.tmp 1) (.tmp 3) (by with_reducible rfl) _ constsC rfl rfl _ _ HNW.out HI4.out rfl (by simp [constsC, consts, Value.oneCell']) ?_))
  refine calls_name fun V hV => ?_
  have hBV : Below w.heap.size w V := by
    rw [hV]
    exact below_setRow (HB1.out.trans ((World.below_alloc w1 _).mono hz1)) hz1 _
  have hv1 : Blk V w1.heap.size constsC 33 := by rw [hV]; exact setRow_heap _ _ _ _ _ _ HNW.out
  have hl1 := hv1.lt
  have HV1 := Lib.hid hv1
  have HBV := Lib.hid hBV
  have hzv := hBV.size
  generalize w1.heap.size = b at *
  clear hV hv1 hBV HNW HB1
  go_wp2_with fail
  refine (sum0_any _).mono ?_
  rintro e w2 ⟨rfl, hb2⟩
  have HNW := Lib.hid (show Blk (w2.alloc (.cells (arr32 fun _ => 0) 39)) w2.heap.size (arr32 fun _ => 0) 39 from heap_alloc_new _ _)
  have HB2 := Lib.hid hb2
  have hz2 := hb2.size
  clear hb2
  go_upto_region 3 with (first
    | (refine wpList_store_row rfl 39 (.tmp 2) (.tmp 4) (by with_reducible rfl) _ _ rfl rfl _ _ HNW.out HI3.out rfl (by simp [Value.oneCell']) ?_))
  refine wp_name fun V2 hV => ?_
  have hBV : Below V.heap.size V V2 := by
    rw [hV]
    exact below_setRow (HB2.out.trans ((World.below_alloc w2 _).mono hz2)) hz2 _
  have hv2 : Blk V2 w2.heap.size (arr32 fun j => ((emG j : Nat) : Int)) 39 := by rw [hV]; exact setRow_heap _ _ _ _ _ _ HNW.out
  have HV2 := Lib.hid hv2
  have HC := Lib.hid (HV1.out.grow hBV)
  have HBW := Lib.hid (HBV.out.trans (hBV.mono hzv))
  clear hV hv2 hBV HNW HB2 HBV HV1
  go_wp2_with (first
    | (refine wpList_load_row rfl 39 (.tmp 2) (by with_reducible rfl) _ rfl _ _ (0, 0) _ HV2.out HU3.out rfl HI3.out ?_))
  refine (refFrom_any emG _ emG_lt).mono ?_
  rintro e w3 ⟨rfl, hb3⟩
  have HB3 := Lib.hid hb3
  have hz3 := hb3.size
  have hz4 := HBW.out.size
  clear hb3
  go_wp2_with fail
  refine (text0_any _).mono ?_
  rintro e w4 ⟨rfl, hb4⟩
  have hc := (HC.out.grow HB3.out).grow hb4
  have hq0 : w4.cell? ⟨b, 0, none⟩ = some (.int .u64 1) := hc.cell 0
  have hq1 : w4.cell? ⟨b, 1, none⟩ = some (.int .u64 32898) := hc.cell 1
  have hq2 : w4.cell? ⟨b, 23, none⟩ = some (.int .u64 9223372039002292232) := hc.cell 23
  have HBE := Lib.hid (HBW.out.trans ((HB3.out.mono hz4).trans (hb4.mono (Nat.le_trans hz4 hz3))))
  clear hb4 hc HC HB3 HBW
  go_wp2_with fail
  go_ret
  exact ⟨by simp, HBE.out⟩
end Go.Proofs.Ytojmifniidddpaa
