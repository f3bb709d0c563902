/- Walks of package store: the rule found, the label of three, what a change costs. -/
import Derived.Test.YtiglfbnicihpmaaStoreC
set_option linter.unusedVariables false
set_option linter.unusedSimpArgs false
namespace Go.Proofs.Ytiglfbnicihpmaa
open Go.RowKit

theorem found_any (f : FuncId) (oc : Array Value) (vs : List (Value × Value)) (A : Option Addr) (cap : Nat) (Bt : Nat → Bool) (i0 : Nat) (x : Value × Value) (w : World) (hS : SlAt w A (vs.flatMap pairV)) (hn : vs.length = 4) (hcap : 4 ≤ cap)
    (hent : Enters Try.prog f) (hf : ∀ k v, vs[k]? = some v → ∀ V, Below w.heap.size w V → Calls Try.prog f (#[.agg #[v.1, v.2]] ++ oc) V fun e w' => e = .returned (.bool (Bt k)) ∧ Below V.heap.size V w')
    (hi : ∀ j, j < i0 → Bt j = false) (h0 : i0 < 4) (hB : Bt i0 = true) (hx : vs[i0]? = some x) (h1 : x.1.oneCell' = true) (h2 : x.2.oneCell' = true) :
    Calls Try.prog 19 #[.slice A 4 cap, .func (.func f) #[] oc] w fun e w' => e = .returned (.agg #[x.1, x.2]) ∧ Below w.heap.size w w' := by
  have HF := Lib.hid (fun V (hb : Below w.heap.size w V) => index_any f oc vs A cap Bt i0 V (hS.grow hb) hn hcap hent (fun k v hv V' hV' => hf k v hv V' (hb.trans (hV'.mono hb.size))) hi h0 hB)
  obtain ⟨b, off, rfl, hbl, hcell⟩ := hS.cell (flat_at (f := pairV) (n := 2) (fun _ => rfl) vs i0 x hx 0 (by omega))
  have hc0 := hcell (i0 * 2) _ (flat_at (f := pairV) (n := 2) (fun _ => rfl) vs i0 x hx 0 (by omega))
  have hc1 := hcell (i0 * 2 + 1) _ (flat_at (f := pairV) (n := 2) (fun _ => rfl) vs i0 x hx 1 (by omega))
  rw [← Nat.add_assoc] at hc1
  clear hcell hS hf hi hB hx hent hn
  obtain ⟨x1, x2⟩ := x
  replace hc0 : w.cell? ⟨b, off + i0 * 2, none⟩ = some x1 := hc0
  replace hc1 : w.cell? ⟨b, off + i0 * 2 + 1, none⟩ = some x2 := hc1
  dsimp only at h1 h2
  go_enter Try.func19, Try.ntmps19
  go_wp2_with fail
  refine (HF.out _ (by go_grown)).mono ?_
  rintro e w' ⟨rfl, hb⟩
  have hb' : Below w.heap.size w w' := Below.trans (by go_grown) (Below.mono hb (by first | omega | (simp; done) | (simp; omega)))
  have hd0 := (hb'.cell (p := ⟨b, off + i0 * 2, none⟩) hbl).trans hc0
  have hd1 := (hb'.cell (p := ⟨b, off + i0 * 2 + 1, none⟩) hbl).trans hc1
  have hO := Own.grow' hb (Own.new (Own.nil w) w.heap.size rfl)
  have hy := Own.cell hO 0 rfl
  have hz := Own.free hO 0 rfl
  have hl := Own.lt hO 0 rfl
  have s1 : ∀ (V : World) (a : Addr) (m : Mode), (store a x1 m).run Try.prog V = stored Try.prog V a x1 m := fun V a m => run_store _ V a x1 m h1
  have s2 : ∀ (V : World) (a : Addr) (m : Mode), (store a x2 m).run Try.prog V = stored Try.prog V a x2 m := fun V a m => run_store _ V a x2 m h2
  clear hc0 hc1 hb hO
  go_wp2_with fail
  refine bodyPost_ret (v := .agg #[x1, x2]) (by simp [results, Try.results19, go_sem, *]) rfl ?_
  exact ⟨rfl, by go_grown⟩

def lab3 (x y z : Vl) : Int := joinL 0 [x.l, y.l, z.l]
def c3 (x y z : Vl) : List (Int × Int) := [(0, x.l), (0, y.l), (0, z.l)]
def LRel (B : Nat) (x y z : Vl) (w : World) (v i : Value) (wr : World) : Prop := ∃ k : Nat, k ≤ 3 ∧ i = .int .i64 k ∧ wr.ownsRow B 92 2 v k (cellsC ((c3 x y z).take k)) ∧ Below w.heap.size w wr
set_option maxHeartbeats 2000000 in
set_option maxRecDepth 20000 in
theorem lab3_any (x y z : Vl) (w : World) :
    Calls Try.prog 22 #[.agg #[.int .u64 x.a, .int .u64 x.b, .int .u64 x.c, .int .u64 x.d, .int .u64 x.l, .int .u64 y.a, .int .u64 y.b, .int .u64 y.c, .int .u64 y.d, .int .u64 y.l, .int .u64 z.a, .int .u64 z.b, .int .u64 z.c, .int .u64 z.d, .int .u64 z.l]] w fun e w' => e = .returned (.int .u64 (lab3 x y z)) ∧ Below w.heap.size w w' := by
  obtain ⟨i0, hi, hz0, hz1, hz2⟩ := info_parts tinfo_cell
  have U53 := u53
  have I53 := i53
  have HC : (c3 x y z)[0]? = some (0, x.l) ∧ (c3 x y z)[1]? = some (0, y.l) ∧ (c3 x y z)[2]? = some (0, z.l) := ⟨rfl, rfl, rfl⟩
  have HL := Lib.hid HC
  clear HC
  have hJ : joinL 0 ((c3 x y z).map Prod.snd) = lab3 x y z := rfl
  have HJ := Lib.hid hJ
  have hCl : (c3 x y z).length = 3 := rfl
  have HN := Lib.hid hCl
  clear hJ hCl
  go_enter Try.func22, Try.ntmps22
  go_wp2_with (first | (refine wpList_load_row rfl 53 (.tmp 1) (by with_reducible rfl) _ rfl _ _ (0, 0) _ (Own.get (Own.new (Own.nil w) w.heap.size rfl) 0 rfl) U53 rfl I53 ?_))
  go_loopw [3, 7] (fun v i wr => LRel w.heap.size x y z w v i wr) (fun _ i _ => 3 - (intOf i).toNat)
  case atStart => exact ⟨0, Nat.zero_le _, rfl, World.ownsRow_nil _ _ _ _, by go_grown⟩
  case round =>
    obtain ⟨k, hk, rfl, hown, hb⟩ := hrel
    by_cases hlt : k < 3
    · have hsz := hb.size
      have hk3 : k = 0 ∨ k = 1 ∨ k = 2 := by omega
      rcases hk3 with rfl | rfl | rfl
      · have hix : ∀ W : World, (Instr.index 53 (.agg #[.int .u64 x.a, .int .u64 x.b, .int .u64 x.c, .int .u64 x.d, .int .u64 x.l, .int .u64 y.a, .int .u64 y.b, .int .u64 y.c, .int .u64 y.d, .int .u64 y.l, .int .u64 z.a, .int .u64 z.b, .int .u64 z.c, .int .u64 z.d, .int .u64 z.l]) (.int .i64 0)).run Try.prog W = .ok (.agg #[.int .u64 x.a, .int .u64 x.b, .int .u64 x.c, .int .u64 x.d, .int .u64 x.l]) W := fun _ => by kernel_rfl
        go_wp2_with (first | (at_builtin; refine wpList_append_own _ rfl _ _ 90 rfl w.heap.size 92 i0 _ 2 16 under_cells hi hz0 hz1 hz2 rfl (by decide) _ _ _ rfl ((hown.alloc _).alloc _) ⟨wr.heap.size + 1, 0, none⟩ 1 1 (cellC (0, x.l)) rfl rfl (fun j u hj => ?news0) (by simp [cellC, Value.oneCell']) (by simp only [maxLen]; omega) (by omega) (by simp; omega) ?_))
        case news0 => exact (by simpa using news_at (wr.alloc (.cells #[.int .u64 x.a, .int .u64 x.b, .int .u64 x.c, .int .u64 x.d, .int .u64 x.l] 27)) #[.int .u8 0, .int .u64 x.l] 92 j u hj)
        intro v3 w3 hown3 hg3 _
        have hb3 : Below w.heap.size w w3 := below_grown (Below.trans hb (by go_grown)) ((hown.alloc _).alloc _) hg3 (by simp; omega) (Nat.le_refl _)
        have hown4 : w3.ownsRow w.heap.size 92 2 v3 (0 + 1) (cellsC ((c3 x y z).take (0 + 1))) := by
          rw [cellsC_take (x := (0, x.l)) HL.out.1]; exact hown3
        clear hown3 hg3 hown hsz
        go_wp2_with fail
        exact ⟨⟨0 + 1, by omega, by go_num, hown4, hb3⟩, by simp [intOf]⟩
      · have hix : ∀ W : World, (Instr.index 53 (.agg #[.int .u64 x.a, .int .u64 x.b, .int .u64 x.c, .int .u64 x.d, .int .u64 x.l, .int .u64 y.a, .int .u64 y.b, .int .u64 y.c, .int .u64 y.d, .int .u64 y.l, .int .u64 z.a, .int .u64 z.b, .int .u64 z.c, .int .u64 z.d, .int .u64 z.l]) (.int .i64 1)).run Try.prog W = .ok (.agg #[.int .u64 y.a, .int .u64 y.b, .int .u64 y.c, .int .u64 y.d, .int .u64 y.l]) W := fun _ => by kernel_rfl
        go_wp2_with (first | (at_builtin; refine wpList_append_own _ rfl _ _ 90 rfl w.heap.size 92 i0 _ 2 16 under_cells hi hz0 hz1 hz2 rfl (by decide) _ _ _ rfl ((hown.alloc _).alloc _) ⟨wr.heap.size + 1, 0, none⟩ 1 1 (cellC (0, y.l)) rfl rfl (fun j u hj => ?news1) (by simp [cellC, Value.oneCell']) (by simp only [maxLen]; omega) (by omega) (by simp; omega) ?_))
        case news1 => exact (by simpa using news_at (wr.alloc (.cells #[.int .u64 y.a, .int .u64 y.b, .int .u64 y.c, .int .u64 y.d, .int .u64 y.l] 27)) #[.int .u8 0, .int .u64 y.l] 92 j u hj)
        intro v3 w3 hown3 hg3 _
        have hb3 : Below w.heap.size w w3 := below_grown (Below.trans hb (by go_grown)) ((hown.alloc _).alloc _) hg3 (by simp; omega) (Nat.le_refl _)
        have hown4 : w3.ownsRow w.heap.size 92 2 v3 (1 + 1) (cellsC ((c3 x y z).take (1 + 1))) := by
          rw [cellsC_take (x := (0, y.l)) HL.out.2.1]; exact hown3
        clear hown3 hg3 hown hsz
        go_wp2_with fail
        exact ⟨⟨1 + 1, by omega, by go_num, hown4, hb3⟩, by simp [intOf]⟩
      · have hix : ∀ W : World, (Instr.index 53 (.agg #[.int .u64 x.a, .int .u64 x.b, .int .u64 x.c, .int .u64 x.d, .int .u64 x.l, .int .u64 y.a, .int .u64 y.b, .int .u64 y.c, .int .u64 y.d, .int .u64 y.l, .int .u64 z.a, .int .u64 z.b, .int .u64 z.c, .int .u64 z.d, .int .u64 z.l]) (.int .i64 2)).run Try.prog W = .ok (.agg #[.int .u64 z.a, .int .u64 z.b, .int .u64 z.c, .int .u64 z.d, .int .u64 z.l]) W := fun _ => by kernel_rfl
        go_wp2_with (first | (at_builtin; refine wpList_append_own _ rfl _ _ 90 rfl w.heap.size 92 i0 _ 2 16 under_cells hi hz0 hz1 hz2 rfl (by decide) _ _ _ rfl ((hown.alloc _).alloc _) ⟨wr.heap.size + 1, 0, none⟩ 1 1 (cellC (0, z.l)) rfl rfl (fun j u hj => ?news2) (by simp [cellC, Value.oneCell']) (by simp only [maxLen]; omega) (by omega) (by simp; omega) ?_))
        case news2 => exact (by simpa using news_at (wr.alloc (.cells #[.int .u64 z.a, .int .u64 z.b, .int .u64 z.c, .int .u64 z.d, .int .u64 z.l] 27)) #[.int .u8 0, .int .u64 z.l] 92 j u hj)
        intro v3 w3 hown3 hg3 _
        have hb3 : Below w.heap.size w w3 := below_grown (Below.trans hb (by go_grown)) ((hown.alloc _).alloc _) hg3 (by simp; omega) (Nat.le_refl _)
        have hown4 : w3.ownsRow w.heap.size 92 2 v3 (2 + 1) (cellsC ((c3 x y z).take (2 + 1))) := by
          rw [cellsC_take (x := (0, z.l)) HL.out.2.2]; exact hown3
        clear hown3 hg3 hown hsz
        go_wp2_with fail
        exact ⟨⟨2 + 1, by omega, by go_num, hown4, hb3⟩, by simp [intOf]⟩
    · obtain rfl : k = 3 := by omega
      rw [List.take_of_length_le (Nat.le_of_eq HN.out)] at hown
      obtain ⟨A', c', rfl, hs, hc, hT⟩ := slice_of_owns hown
      have hl := Lib.hid (label_any A' (c3 x y z) c' wr hs hc (by rw [HN.out]; omega))
      rw [HN.out, HJ.out] at hl
      have HB := Lib.hid hb
      clear hown hs hb hT
      go_wp2_with fail
      refine hl.out.mono ?_
      rintro e w3 ⟨rfl, hb3⟩
      go_wp2_with fail
      go_ret
      exact ⟨rfl, HB.out.trans (hb3.mono HB.out.size)⟩
end Go.Proofs.Ytiglfbnicihpmaa
