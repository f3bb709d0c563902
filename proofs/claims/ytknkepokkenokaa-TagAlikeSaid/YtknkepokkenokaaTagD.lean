/- Walks of package tag: Join, Part. -/
import Derived.Test.YtknkepokkenokaaTagC
import Derived.Test.YtknkepokkenokaaCopy
import Derived.WalkMore
import Derived.ScopeJumps
set_option linter.unusedVariables false
set_option linter.unusedSimpArgs false
namespace Go.Proofs.Ytknkepokkenokaa
open Go.RowKit

theorem joins_any (A : Option Addr) (xs : List (Int × Int)) (cap : Nat) (a : Int) (w : World) (hxs : SlAt w A (cellsC xs)) (hcap : xs.length ≤ cap) (hn : xs.length ≤ 100000) :
    Calls Try.prog 18 #[.int .u64 a, .slice A xs.length cap] w (Gives w (cellsC (xs.map fun c => (c.1, orI (orI 0 c.2) a))) xs.length) := by
  have HF := Lib.hid (fun (W : World) (hW : SlAt W A (cellsC xs)) (hc : W.cell? ⟨w.heap.size, 0, none⟩ = some (.int .u64 a)) => madeCC_any 39 #[.pointer (some ⟨w.heap.size, 0, none⟩)] (fun c => (c.1, orI (orI 0 c.2) a)) A xs cap W hW hcap hn (enters_of Try.func39 (by kernel_rfl) rfl) (fun x _ V hV => join1c_any w.heap.size x.1 x.2 a V (kept hV hc)))
  go_enter Try.func18, Try.ntmps18
  go_wp2_with fail
  refine (HF.out _ (hxs.grow (World.below_alloc w _)) (newc _ _ _ _ rfl)).mono ?_
  rintro e w2 ⟨v, rfl, hown, hb⟩
  obtain ⟨A', c', rfl, hs, hc, hT⟩ := slice_of_owns hown
  have hbw := (World.below_alloc w _).trans (hb.mono (World.below_alloc w _).size)
  clear hown hb
  go_wp2_with fail
  go_ret
  exact ⟨_, _, rfl, hs, hc, hbw, hT.mono (by first | omega | (simp; done) | (simp; omega))⟩

theorem flat_drop {α : Type} {f : α → List Value} {n : Nat} (hf : ∀ x, (f x).length = n) (xs : List α) (m : Nat) : (xs.drop m).flatMap f = (xs.flatMap f).drop (m * n) := by
  induction m generalizing xs with
  | zero => simp
  | succ m ih =>
    cases xs with
    | nil => simp
    | cons x xs =>
      rw [List.drop_succ_cons, ih, List.flatMap_cons, Nat.succ_mul, Nat.add_comm, ← List.drop_drop]
      congr 1
      rw [← hf x, List.drop_left]
theorem flat_take_n {α : Type} {f : α → List Value} {n : Nat} (hf : ∀ x, (f x).length = n) (xs : List α) (m : Nat) : (xs.take m).flatMap f = (xs.flatMap f).take (m * n) := by
  induction m generalizing xs with
  | zero => simp
  | succ m ih =>
    cases xs with
    | nil => simp
    | cons x xs => rw [List.take_succ_cons, List.flatMap_cons, ih, List.flatMap_cons, Nat.succ_mul, Nat.add_comm, ← hf x, List.take_length_add_append]
theorem SlAt.drop {w : World} {A : Option Addr} {cs : List Value} (h : SlAt w A cs) (k : Nat) : SlAt w (A.map (·.add k)) (cs.drop k) := by
  rcases h with h | ⟨b, off, rfl, h2, h3⟩
  · exact .inl (by simp [h])
  · exact .inr ⟨b, off + k, by simp [Addr.add_lit], h2, fun j u hu => by rw [Nat.add_assoc]; exact h3 (k + j) u (by simpa using hu)⟩
theorem SlAt.take {w : World} {A : Option Addr} {cs : List Value} (h : SlAt w A cs) (k : Nat) : SlAt w A (cs.take k) := by
  rcases h with h | ⟨b, off, rfl, h2, h3⟩
  · exact .inl (by simp [h])
  · exact .inr ⟨b, off, rfl, h2, fun j u hu => h3 j u (by rw [List.getElem?_take] at hu; split at hu <;> first | exact hu | exact absurd hu (by simp))⟩
theorem from_any (A : Option Addr) (xs : List (Int × Int)) (cap p : Nat) (w : World) (hxs : SlAt w A (cellsC xs)) (hcap : xs.length ≤ cap) (hn : xs.length ≤ 100000) :
    Calls Try.prog 31 #[.slice A xs.length cap, .int .i64 p] w fun e w' => ∃ A', e = .returned (.slice A' (xs.length - p) (xs.length - p)) ∧ SlAt w A' (cellsC (xs.drop p)) ∧ (A' = none → xs.length - p = 0) ∧ w = w' := by
  have hS := hxs.drop (p * 2)
  have hd : (cellsC xs).drop (p * 2) = cellsC (xs.drop p) := (flat_drop (f := cellC) (fun _ => rfl) xs p).symm
  rw [hd] at hS
  have hN : A = none → xs.length = 0 := fun h => by
    subst h
    rcases hxs with h | ⟨_, _, h, _⟩
    · have := cellsC_len xs; rw [h] at this; simp only [List.length_nil] at this; omega
    · cases h
  have HS := Lib.hid hS
  have HN := Lib.hid hN
  have hlen : xs.length - p = (xs.drop p).length := by simp
  have HL := Lib.hid hlen
  clear hS hN hd hxs hlen
  generalize xs.length = n at *
  by_cases h : p < n
  · have h' : ((p : Nat) : Int) < ((n : Nat) : Int) := by omega
    have hne : ¬ n = p := by omega
    go_enter Try.func31, Try.ntmps31
    go_wp2_with fail
    go_ret
    refine ⟨_, rfl, HS.out, fun hA => ?_, rfl⟩
    have := HN.out (by cases A <;> simp_all)
    omega
  · have h' : ((n : Nat) : Int) ≤ ((p : Nat) : Int) := by omega
    have h0 : n - p = 0 := by omega
    have hnil : SlAt w A (cellsC (xs.drop p)) := .inl (by rw [List.eq_nil_of_length_eq_zero (by have := HL.out; omega : (xs.drop p).length = 0)]; rfl)
    have HZ := Lib.hid hnil
    have H0 := Lib.hid h0
    clear hnil h0
    go_enter Try.func31, Try.ntmps31
    go_wp2_with fail
    all_goals go_ret
    all_goals exact ⟨A, by first | rfl | (rw [H0.out]; rfl), HZ.out, fun _ => H0.out, rfl⟩

theorem wp_scope_fwd {P : Program} {a : Act} {w : World} {Q : Exit → Act → World → Prop} {c rest : Code} (l : Nat) (hf : findLabel c l = some rest) (first : c.wp P (Exit.jump l (fun a w => rest.wp P (Exit.noGoto Q) a w) Q) a w) : (Code.scope c).wp P Q a w :=
  wp_scope_jumps l _ (fun _ _ => 0) hf first (fun a w h => wp_mono h (fun e a w hq => by
    cases e with
    | goto l' => exact hq.elim
    | _ => exact hq))
/-- A part of cells. -/
def partL (xs : List (Int × Int)) (p m : Nat) : List (Int × Int) := (xs.drop p).take m ++ List.replicate (m - min (xs.length - p) m) (0, 0)
theorem partL_len (xs : List (Int × Int)) (p m : Nat) : (partL xs p m).length = m := by simp [partL]; omega
set_option maxRecDepth 20000 in
theorem part_any (A : Option Addr) (xs : List (Int × Int)) (cap p m : Nat) (w : World) (hxs : SlAt w A (cellsC xs)) (hcap : xs.length ≤ cap) (hn : xs.length ≤ 100000) (hm : m ≤ 65536) :
    Calls Try.prog 8 #[.slice A xs.length cap, .int .i64 p, .int .i64 m] w
      fun e w' => ∃ A' c, e = .returned (.tuple #[.slice A' m c, .int .i64 0]) ∧ SlAt w' A' (cellsC (partL xs p m)) ∧ m ≤ c ∧ Below w.heap.size w w' := by
  obtain ⟨i0, hi, hz0, hz1, hz2⟩ := info_parts tinfo_cell
  have HF := Lib.hid (fun (W : World) (hW : SlAt W A (cellsC xs)) => from_any A xs cap p W hW hcap hn)
  have HX := Lib.hid hxs
  have hlen : (cellsC ((xs.drop p).take m)).length = Nat.min (xs.length - p) m * 2 := by rw [cellsC_len]; simp [Nat.min_comm]
  have hres : cellsC ((xs.drop p).take m) ++ (cellsC (List.replicate m (0, 0))).drop (cellsC ((xs.drop p).take m)).length = cellsC (partL xs p m) := by
    rw [hlen, cellsC, cellsC, ← flat_drop (f := cellC) (n := 2) (fun _ => rfl), ← List.flatMap_append]
    simp [partL, cellsC]
  have hone : ∀ v ∈ cellsC ((xs.drop p).take m), v.oneCell' = true := fun v hv => by
    obtain ⟨c, _, hc⟩ := List.mem_flatMap.1 hv
    simp [cellC] at hc; rcases hc with rfl | rfl <;> rfl
  have HL := Lib.hid hlen
  have HR := Lib.hid hres
  have HO := Lib.hid hone
  clear hxs hlen hres hone
  have hfl : ∀ W : World, (Instr.field 60 (.agg #[.slice A xs.length cap]) 0).run Try.prog W = .ok (.slice A xs.length cap) W := fun _ => by kernel_rfl
  generalize xs.length = n at *
  go_enter Try.func8, Try.ntmps8
  go_wp2_with fail
  go_step3
  go_wp2_with (first | (at_make; refine wpList_make_full _ rfl _ _ 22 rfl w.heap.size 55 i0 _ 2 under_cells hi hz0 hz1 _ _ _ _ m rfl rfl rfl rfl (by rw [hz2]; omega) (by simp only [maxLen]; omega) (Nat.le_refl _) ?_))
  intro w1 hown hgrow
  have hb1 : Below w.heap.size w w1 := (Below.refl _ _).grown hgrow (Nat.le_refl _) (fun k hk => by cases hk)
  obtain ⟨cur, hh, hcur⟩ : ∃ cur : Array Value, w1.heap[w.heap.size]? = some (.cells cur 55 (0, 0)) ∧ cur.toList = cellsC (List.replicate m (0, 0)) := by
    rcases hown.2 with ⟨hv, _⟩ | ⟨g, cap', cur, hv, _, hh, _, _, hcs, htake⟩
    · cases hv
    · simp only [Value.slice.injEq, true_and, Option.some.injEq, Addr.mk.injEq, and_true] at hv
      obtain ⟨rfl, rfl⟩ := hv
      refine ⟨cur, hh, ?_⟩
      have h2 := made_zero cellC #[.int .u8 0, .int .u64 0] (0, 0) rfl (by decide) m
      rw [List.take_of_length_le (by simp [hcs])] at htake
      rw [htake]; exact h2
  have hX1 := HX.out.grow hb1
  clear hown hgrow
  go_wp2_with fail
  refine (HF.out _ hX1).mono ?_
  rintro e w2 ⟨A', rfl, hS, hN, rfl⟩
  have hcl : cur.size = m * 2 := by rw [← Array.length_toList, hcur, cellsC_len, List.length_replicate]
  have hcp := fun ty => run_copy_head (P := Try.prog) (w := w1) (d := .tmp 20) (s := .tmp 25) (dT := 22) (sT := 58) (ty := ty) (size := 2) under_cells (by kernel_rfl) w.heap.size m m A' (n - p) (n - p) cur _ hh (cellsC ((xs.drop p).take m)) HL.out
    (by have := hS.take (m * 2); rw [show (cellsC (xs.drop p)).take (m * 2) = cellsC ((xs.drop p).take m) from (flat_take_n (f := cellC) (fun _ => rfl) _ m).symm] at this; exact this) (fun h => ⟨hN h, hN h⟩) (by rw [HL.out, hcl]; exact Nat.mul_le_mul_right _ (Nat.min_le_right _ _)) HO.out
  rw [hcur, HR.out] at hcp
  have hb3 := below_setRow hb1 (Nat.le_refl _) (cellsC (partL xs p m)).toArray
  have hS3 : SlAt (w1.setRow w.heap.size (cellsC (partL xs p m)).toArray) (some ⟨w.heap.size, 0, none⟩) (cellsC (partL xs p m)) := by
    have h4 := setRow_heap w1 w.heap.size _ (cellsC (partL xs p m)).toArray _ _ hh
    refine .inr ⟨_, _, rfl, (Array.getElem?_eq_some_iff.1 h4).1, fun j u hu => ?_⟩
    simp [World.cell?, h4, hu]
  generalize w1.setRow w.heap.size (cellsC (partL xs p m)).toArray = w3 at *
  have HB := Lib.hid hb3
  have HS := Lib.hid hS3
  clear hb3 hS3 hh hb1 hX1 hS hN
  go_wp2_with fail
  rw [Exit.noGoto_ret]
  go_ret2
  exact ⟨_, _, rfl, HS.out, Nat.le_refl _, HB.out⟩
set_option maxRecDepth 20000 in
theorem part_bad (A : Option Addr) (n cap : Nat) (p m : Int) (w : World) (h : p < 0 ∨ m < 0 ∨ 65536 < m) :
    Calls Try.prog 8 #[.slice A n cap, .int .i64 p, .int .i64 m] w
      fun e w' => e = .returned (.tuple #[.slice none 0 0, .int .i64 2]) ∧ w = w' := by
  have hd : (decide (p < 0) || decide (m < 0) || decide (65536 < m)) = true := by
    rcases h with h | h | h <;> simp [h]
  clear h
  go_enter Try.func8, Try.ntmps8
  go_wp2_with fail
  refine wp_scope_fwd 0 rfl ?_
  go_wp2_with fail
  all_goals (first | (go_step3; refine ⟨rfl, ?_⟩) | skip)
  all_goals go_wp2_with fail
  all_goals (try rw [Exit.noGoto_ret])
  all_goals go_ret2
  all_goals exact ⟨rfl, rfl⟩
end Go.Proofs.Ytknkepokkenokaa
