/- Parts of a proof, merged: StackNd Law Open StackNe. No condition. -/
import Derived.Test.YtcfomhnfhalmaaaSMe5
import Derived.WalkKit
import Derived.ProofKit
import Derived.OpenShut
import Derived.Deep.Slices
import Derived.Deep.Strs
section
set_option linter.unusedVariables false
set_option linter.unusedSimpArgs false
set_option maxRecDepth 100000
namespace Go.Proofs.Ytcfomhnfhalmaaa
open Go.RowKit

set_option maxHeartbeats 4000000 in
theorem memory_end {A0 : Option Addr} {X : List M3} {up : BitVec 64} {c0 : Nat} {M : List C2} (hR : RwOK (RM A0 X)) (hRp : ∀ j r, (RM A0 X) j = some r → 0 < r.n → 0 < (r.V 0).length) (hM : M.length % 32 = 0 ∧ M.length ≤ 5000) {n0 : Nat} {w0 : World} {a5 : Act} {Hr5 : List RBlk} {w5 : World} (hP5 : PatSt (RM A0 X) ([].map markD) [(0, .rsl 0 X.length c0), (1, .bv .u64 up), (5, .ptr 0 0), (6, .gsl .any 2 0 M.length)] Try.f4.ntmps ⟨[.cells [.gsl .any 1 0 M.length, .bool true true] 57, .row M.length 2 (F2 M) ccE none, .row M.length 2 (F2 M) ccE none], [], allW⟩ a5 Hr5) (hB5 : Bun (RM A0 X) [] n0 w0 [.cells [.gsl .any 1 0 M.length, .bool true true] 57, .row M.length 2 (F2 M) ccE none, .row M.length 2 (F2 M) ccE none] Hr5 w5) :
    ((sR (sR (sR (sR (sR (Try.f4.body.getD .skip))))))).wp Try.prog (bodyPostM Fence.wide 0 Try.prog Try.f4 (fun e w' => e = .returned (.bool true) ∧ Below n0 w0 w')) a5 w5 := by
  have hE := EG_ok (T := tabW ++ tabS) hR false tWSm_ok goodM_nil
  obtain ⟨o1, o2, o3⟩ := out_all hM
  have hal : alikeC (outM M 0 (M.length : Int)) M (BitVec.ofInt 64 18446744073709551615) = true := by rw [o1]; exact alikeC_self _ _
  have hul : ((outM M 0 (M.length : Int))).length ≤ 5000 := by rw [o1]; exact hM.2
  have hee : (eM 0 (M.length : Int) == 0) = true := by rw [o2]; rfl
  obtain ⟨m1, m2⟩ := hM
  refine wp_parts (by kernel_rfl) (ev_codeW hE 60 [0, 1, 2] .normal (by decide) (sm_5 A0 X up c0 M) (wkV.refl _) (wkM.refl _) hP5 hB5 fun a6 Hr6 w6 hP6 hB6 => ?_)
  rcases hz : (Int.tmod (X.length : Int) 2 == 1) with _ | _
  · refine wp_parts (by kernel_rfl) (ev_codeW hE 60 [0, 1, 2] .normal (by decide) (sm_6n A0 X up c0 M (allE_cons hz allE_nil)) (wkV.refl _) (wkM.refl _) hP6 hB6 fun a7 Hr7 w7 hP7 hB7 => ?_)
    refine wp_parts (by kernel_rfl) (ev_codeW (EG_ok hR false tWSm_ok (mLM_ok hR M)) 60 [0, 7, 2, 8] .normal (by decide) (sm_7n A0 X up c0 M (allE_cons (rowIsC_self _) (allE_cons (by first | exact decide_eq_true rfl | exact decide_eq_true (by omega) | exact decide_eq_true (by simp only [IntKind.wrap_i64]; omega)) (allE_cons (by first | exact decide_eq_true rfl | exact decide_eq_true (by omega) | exact decide_eq_true (by simp only [IntKind.wrap_i64]; omega)) (allE_cons (by first | exact decide_eq_true rfl | exact decide_eq_true (by omega) | exact decide_eq_true (by simp only [IntKind.wrap_i64]; omega)) (allE_cons rfl (allE_cons rfl (allE_cons (by first | exact decide_eq_true rfl | exact decide_eq_true (by omega) | exact decide_eq_true (by simp only [IntKind.wrap_i64]; omega)) (allE_cons (rngB_t (by omega)) (allE_cons (rngB_t (by omega)) (allE_cons (rngB_t (by omega)) (allE_cons (rngB_t (by omega)) allE_nil)))))))))))) (wkV.refl _) (wkM.refl _) hP7 hB7 fun a8 Hr8 w8 hP8 hB8 => ?_)
    generalize (outM M 0 (M.length : Int)) = U at hP8 hB8 hal hul
    generalize (growM M 0 (M.length : Int)) = G at hP8 hB8
    generalize eM 0 (M.length : Int) = ee at hP8 hee
    refine wp_parts (by kernel_rfl) (ev_codeW hE 60 [0, 1, 2, 3] .normal (by decide) (sm_8n A0 X up c0 M U G ee) (wkV.refl _) (wkM.refl _) hP8 hB8 fun a9 Hr9 w9 hP9 hB9 => ?_)
    exact ev_rest (EG_ok hR false (tDA_ok hR hRp U M) goodM_nil) 60 (sm_zn A0 X up c0 M U G ee (allE_cons (rowIsC_self _) (allE_cons (by first | exact decide_eq_true rfl | exact decide_eq_true (by omega) | exact decide_eq_true (by simp only [IntKind.wrap_i64]; omega)) (allE_cons rfl (allE_cons (rowIsC_self _) (allE_cons (by first | exact decide_eq_true rfl | exact decide_eq_true (by omega) | exact decide_eq_true (by simp only [IntKind.wrap_i64]; omega)) (allE_cons rfl (allE_cons (by first | exact decide_eq_true rfl | exact decide_eq_true (by omega) | exact decide_eq_true (by simp only [IntKind.wrap_i64]; omega)) (allE_cons rfl (allE_cons rfl (allE_cons hal (allE_cons hee allE_nil)))))))))))) rfl hRp hP9 hB9
  · refine wp_parts (by kernel_rfl) (ev_codeW hE 60 [0, 1, 2, 3] .normal (by decide) (sm_6y A0 X up c0 M (allE_cons hz allE_nil)) (wkV.refl _) (wkM.refl _) hP6 hB6 fun a7 Hr7 w7 hP7 hB7 => ?_)
    refine wp_parts (by kernel_rfl) (ev_codeW (EG_ok hR false tWSm_ok (mLM_ok hR M)) 60 [0, 8, 2, 3, 9] .normal (by decide) (sm_7y A0 X up c0 M (allE_cons (rowIsC_self _) (allE_cons (by first | exact decide_eq_true rfl | exact decide_eq_true (by omega) | exact decide_eq_true (by simp only [IntKind.wrap_i64]; omega)) (allE_cons (by first | exact decide_eq_true rfl | exact decide_eq_true (by omega) | exact decide_eq_true (by simp only [IntKind.wrap_i64]; omega)) (allE_cons (by first | exact decide_eq_true rfl | exact decide_eq_true (by omega) | exact decide_eq_true (by simp only [IntKind.wrap_i64]; omega)) (allE_cons rfl (allE_cons rfl (allE_cons (by first | exact decide_eq_true rfl | exact decide_eq_true (by omega) | exact decide_eq_true (by simp only [IntKind.wrap_i64]; omega)) (allE_cons (rngB_t (by omega)) (allE_cons (rngB_t (by omega)) (allE_cons (rngB_t (by omega)) (allE_cons (rngB_t (by omega)) allE_nil)))))))))))) (wkV.refl _) (wkM.refl _) hP7 hB7 fun a8 Hr8 w8 hP8 hB8 => ?_)
    generalize (outM M 0 (M.length : Int)) = U at hP8 hB8 hal hul
    generalize (growM M 0 (M.length : Int)) = G at hP8 hB8
    generalize eM 0 (M.length : Int) = ee at hP8 hee
    refine wp_parts (by kernel_rfl) (ev_codeW hE 60 [0, 1, 2, 3, 4] .normal (by decide) (sm_8y A0 X up c0 M U G ee) (wkV.refl _) (wkM.refl _) hP8 hB8 fun a9 Hr9 w9 hP9 hB9 => ?_)
    exact ev_rest (EG_ok hR false (tDA_ok hR hRp U M) goodM_nil) 60 (sm_zy A0 X up c0 M U G ee (allE_cons (rowIsC_self _) (allE_cons (by first | exact decide_eq_true rfl | exact decide_eq_true (by omega) | exact decide_eq_true (by simp only [IntKind.wrap_i64]; omega)) (allE_cons rfl (allE_cons (rowIsC_self _) (allE_cons (by first | exact decide_eq_true rfl | exact decide_eq_true (by omega) | exact decide_eq_true (by simp only [IntKind.wrap_i64]; omega)) (allE_cons rfl (allE_cons (by first | exact decide_eq_true rfl | exact decide_eq_true (by omega) | exact decide_eq_true (by simp only [IntKind.wrap_i64]; omega)) (allE_cons rfl (allE_cons rfl (allE_cons hal (allE_cons hee allE_nil)))))))))))) rfl hRp hP9 hB9
set_option maxHeartbeats 4000000 in
theorem memory_law (A0 : Option Addr) (X : List M3) (up : BitVec 64) (c0 : Nat) (w : World) (h0 : X.length ≤ c0) (hX : ∀ x ∈ X, Rng x) (S0 : SlAt w A0 (rowCells X.length (F3 X))) (S1 : ∀ x ∈ X, SlAt w x.A (rowCells x.K.length (F2 x.K))) :
    Calls Try.prog 4 #[.slice A0 X.length c0, .int .u64 up.toNat] w fun e w' => e = .returned (.bool true) ∧ Below w.heap.size w w' := by
  have hrm := rm_rows (A0 := A0) (X := X) S0 S1
  have hR : RwOK (RM A0 X) := row_fine fun j r hj => (hrm j r hj).1
  have hD : Rd (RM A0 X) [] w := row_rd fun j r hj => (hrm j r hj).2.1
  have hRp : ∀ j r, (RM A0 X) j = some r → 0 < r.n → 0 < (r.V 0).length := fun j r hj => (hrm j r hj).2.2
  have hE := EG_ok (T := tabW ++ tabS) hR false tWSm_ok goodM_nil
  have hArg : RelL (RM A0 X) [] [.rsl 0 X.length c0, .bv .u64 up] [.slice A0 X.length c0, .int .u64 up.toNat] := .cons (.rsl (r := mkRow A0 X.length 3 (F3 X)) rfl h0) (.cons (.bv rfl) .nil)
  by_cases hx : X.length ≤ 20
  case neg => exact ev_callsR hE 60 (sm_w A0 X up c0 (allE_cons (decide_eq_true (by omega)) allE_nil)) rfl hArg w hD
  refine ev_enter (E := (EG (RM A0 X) false (tabW ++ tabS) [])) (fn := Try.f4) (c := (Try.f4.body.getD .skip)) Try.func4 (by kernel_rfl) (args := [.rsl 0 X.length c0, .bv .u64 up]) (show 2 ≤ Try.f4.ntmps by decide) hArg hD (ds := []) (wr := allW) fun a0 hP0 hB0 => ?_
  refine wp_parts (by kernel_rfl) (ev_codeW hE 60 [] .normal (by decide) (sm_0 A0 X up c0) (wkV.refl _) (wkM.refl _) hP0 hB0 fun a1 Hr1 w1 hP1 hB1 => ?_)
  refine wp_parts (by kernel_rfl) (ev_codeW hE 60 [] .normal (by decide) (sm_1 A0 X up c0 (allE_cons (by first | exact decide_eq_false rfl | exact decide_eq_false (by omega) | exact decide_eq_false (by simp only [IntKind.wrap_i64]; omega)) allE_nil)) (wkV.refl _) (wkM.refl _) hP1 hB1 fun a2 Hr2 w2 hP2 hB2 => ?_)
  refine wp_parts (by kernel_rfl) (ev_codeW hE 60 [0] .normal (by decide) (sm_2 A0 X up c0) (wkV.refl _) (wkM.refl _) hP2 hB2 fun a3 Hr3 w3 hP3 hB3 => ?_)
  refine wp_parts (by kernel_rfl) (ev_codeW hE 60 [0] .normal (by decide) (sm_3 A0 X up c0) (wkV.refl _) (wkM.refl _) hP3 hB3 fun a4 Hr4 w4 hP4 hB4 => ?_)
  obtain ⟨hP4a, hB4a⟩ := nil_cell (l := 0) (s := 2) (F := F2 []) (e := ccE) (by decide) rfl hP4 hB4
  obtain ⟨hP4b, hB4b⟩ := nil_rowT (d := 6) (s := 2) (F := F2 []) (e := ccE) (by decide) (by kernel_rfl) (show 6 < Try.f4.ntmps by decide) rfl hP4a hB4a
  have hP4c : PatSt (RM A0 X) ([].map markD) [(0, .rsl 0 X.length c0), (1, .bv .u64 up), (5, .ptr 0 0), (6, .gsl .top 2 0 0)] Try.f4.ntmps ⟨[.cells [.gsl .top 1 0 0, .bool true true] 57, .row 0 2 (F2 []) ccE none, .row 0 2 (F2 []) ccE none], [], allW⟩ a4 (Hr4 ++ [noBlk 2] ++ [noBlk 2]) := patSt_live hP4b (looks_of (by rfl)) (by kernel_rfl)
  have hWW : wkM [.cells [.gsl .top 1 0 0, .bool true true] 57, .row 0 2 (F2 []) ccE none, .row 0 2 (F2 []) ccE none] [.cells [.gsl .any 1 0 ([] : List C2).length, .bool true true] 57, .row ([] : List C2).length 2 (F2 ([] : List C2)) ccE none, .row ([] : List C2).length 2 (F2 ([] : List C2)) ccE none] := ⟨⟨rfl, wkA_any, wkA.refl _, trivial⟩, wkI.refl _, wkI.refl _, trivial⟩
  have hP4 := hP4c.wk (live' := [(0, .rsl 0 X.length c0), (1, .bv .u64 up), (5, .ptr 0 0), (6, .gsl .any 2 0 ([] : List C2).length)]) (ds' := []) (wr' := allW) ⟨rfl, wkA.refl _, rfl, wkA.refl _, rfl, wkA.refl _, rfl, wkA_any, trivial⟩ hWW
  have hB4c : Bun (RM A0 X) [] w.heap.size w [.cells [.gsl .top 1 0 0, .bool true true] 57, .row 0 2 (F2 []) ccE none, .row 0 2 (F2 []) ccE none] (Hr4 ++ [noBlk 2] ++ [noBlk 2]) w4 := hB4b
  have hB4 := hB4c.wk hWW
  refine wp_parts (by kernel_rfl) (wp_parts (by kernel_rfl) (ev_codeW hE 60 [0, 1, 2] .normal (by decide) (sm_4 A0 X up c0 []) (live'' := [(0, .rsl 0 X.length c0), (1, .bv .u64 up), (5, .ptr 0 0), (6, .gsl .any 2 0 ([] : List C2).length), (7, .int .i64 false (((0 : Nat) : Int)))]) ⟨rfl, wkA.refl _, rfl, wkA.refl _, rfl, wkA.refl _, rfl, wkA.refl _, rfl, wkA_int, trivial⟩ (wkM.refl _) hP4 hB4 fun a5 Hr5 w5 hP5 hB5 => ?_))
  refine wp_bk (by kernel_rfl) ?_
  have hswap : ∀ {k : Nat} {Hr : List RBlk} (Vs : List Value), RelL (RM A0 X) (nums Hr) [.int .i64 false (X.getD k zM).at', .int .i64 false (X.getD k zM).n, .raw (.slice (X.getD k zM).A (X.getD k zM).K.length (X.getD k zM).c)] Vs → RelL (RM A0 X) (nums Hr) [.int .i64 false (X.getD k zM).at', .int .i64 false (X.getD k zM).n, .rsl (k + 1) (X.getD k zM).K.length (X.getD k zM).c] Vs := fun {k} {Hr} Vs h => by
    cases h with | cons g1 h =>
    cases h with | cons g2 h =>
    cases h with | cons g3 h =>
    cases h
    cases g3
    exact .cons g1 (.cons g2 (.cons (.rsl (r := mkRow (X.getD k zM).A (X.getD k zM).K.length 2 (F2 (X.getD k zM).K)) rfl (rngM_get hX k).c) .nil))
  have hround : ∀ k, k < X.length → (∀ i, i ≤ k → fineX (X.getD i zM) = true) → ∀ a6 Hr6 w6 (Q' : Exit → Act → World → Prop), PatSt (RM A0 X) ([].map markD) [(0, .rsl 0 X.length c0), (1, .bv .u64 up), (5, .ptr 0 0), (6, .gsl .any 2 0 (runM X k).length), (7, .int .i64 false ((k : Int)))] Try.f4.ntmps ⟨[.cells [.gsl .any 1 0 (runM X k).length, .bool true true] 57, .row (runM X k).length 2 (F2 (runM X k)) ccE none, .row (runM X k).length 2 (F2 (runM X k)) ccE none], [], allW⟩ a6 Hr6 → Bun (RM A0 X) [] w.heap.size w [.cells [.gsl .any 1 0 (runM X k).length, .bool true true] 57, .row (runM X k).length 2 (F2 (runM X k)) ccE none, .row (runM X k).length 2 (F2 (runM X k)) ccE none] Hr6 w6 → (∀ a' Hr' w', PatSt (RM A0 X) ([].map markD) [(0, .rsl 0 X.length c0), (1, .bv .u64 up), (5, .ptr 0 0), (6, .gsl .any 2 0 (runM X (k + 1)).length), (7, .int .i64 false (((k + 1 : Nat) : Int)))] Try.f4.ntmps ⟨[.cells [.gsl .any 1 0 (runM X (k + 1)).length, .bool true true] 57, .row (runM X (k + 1)).length 2 (F2 (runM X (k + 1))) ccE none, .row (runM X (k + 1)).length 2 (F2 (runM X (k + 1))) ccE none], [], allW⟩ a' Hr' → Bun (RM A0 X) [] w.heap.size w [.cells [.gsl .any 1 0 (runM X (k + 1)).length, .bool true true] 57, .row (runM X (k + 1)).length 2 (F2 (runM X (k + 1))) ccE none, .row (runM X (k + 1)).length 2 (F2 (runM X (k + 1))) ccE none] Hr' w' → Q' .normal a' w') → Code.wp Try.prog (lpB (bkB (sR (sL (sR (sR (sR (sR (Try.f4.body.getD .skip))))))))) Q' a6 w6 := fun k hk hf a6 Hr6 w6 Q' hP6 hB6 hnx => by
    have hM := run_keep (X := X) (n := k + 1) (fun i hi => hf i (by omega)) k (by omega)
    have hrs : runM X (k + 1) = stepM (X.getD k zM) (runM X k) := rfl
    rw [hrs] at hnx
    have hM2 := step_keep (hf k (Nat.le_refl _)) hM
    have hx := rngM_get hX k
    generalize runM X k = M at hP6 hB6 hnx hM hM2
    refine wp_parts (by kernel_rfl) (ev_codeW hE 60 [0, 1, 2] .normal (by decide) (sm_l0 A0 X up c0 M k (allE_cons (by first | exact decide_eq_true rfl | exact decide_eq_true (by omega) | exact decide_eq_true (by simp only [IntKind.wrap_i64]; omega)) allE_nil)) (wkV.refl _) (wkM.refl _) hP6 hB6 fun a7 Hr7 w7 hP7 hB7 => ?_)
    refine wp_parts (by kernel_rfl) (wp_bk (by kernel_rfl) ?_)
    refine wp_parts (by kernel_rfl) (ev_codeW hE 60 [0, 1, 2, 3] .normal (by decide) (sm_b0 A0 X up c0 M k (allE_cons (by first | exact decide_eq_true rfl | exact decide_eq_true (by omega) | exact decide_eq_true (by simp only [IntKind.wrap_i64]; omega)) allE_nil)) (wkV.refl _) (wkM.refl _) hP7 hB7 fun a8 Hr8 w8 hP8 hB8 => ?_)
    have hP8 : PatSt (RM A0 X) ([].map markD) [(0, .rsl 0 X.length c0), (1, .bv .u64 up), (5, .ptr 0 0), (6, .gsl .any 2 0 M.length), (7, .int .i64 false (k : Int)), (8, .ptr 3 0)] Try.f4.ntmps ⟨[.cells [.gsl .any 1 0 M.length, .bool true true] 57, .row M.length 2 (F2 M) ccE none, .row M.length 2 (F2 M) ccE none, .cells [.int .i64 false (X.getD k zM).at', .int .i64 false (X.getD k zM).n, .rsl (k + 1) (X.getD k zM).K.length (X.getD k zM).c] 45], [], allW⟩ a8 Hr8 := patSt_cellsR (l := 3) (cs' := [.int .i64 false (X.getD k zM).at', .int .i64 false (X.getD k zM).n, .rsl (k + 1) (X.getD k zM).K.length (X.getD k zM).c]) rfl hswap hP8
    have hB8 : Bun (RM A0 X) [] w.heap.size w [.cells [.gsl .any 1 0 M.length, .bool true true] 57, .row M.length 2 (F2 M) ccE none, .row M.length 2 (F2 M) ccE none, .cells [.int .i64 false (X.getD k zM).at', .int .i64 false (X.getD k zM).n, .rsl (k + 1) (X.getD k zM).K.length (X.getD k zM).c] 45] Hr8 w8 := bun_cells (l := 3) (cs' := [.int .i64 false (X.getD k zM).at', .int .i64 false (X.getD k zM).n, .rsl (k + 1) (X.getD k zM).K.length (X.getD k zM).c]) rfl hB8
    refine wp_parts (by kernel_rfl) (mb1 hR (hf k (Nat.le_refl _)) hP8 hB8 fun a9 Hr9 w9 hP9 hB9 => ?_)
    refine wp_parts (by kernel_rfl) (ev_codeW hE 60 [0, 1, 2, 3, 6, 5] .normal (by decide) (sm_b2 A0 X up c0 M k (allE_cons (by first | exact decide_eq_true rfl | exact decide_eq_true (by omega) | exact decide_eq_true (by simp only [IntKind.wrap_i64]; omega)) (allE_cons (by first | exact decide_eq_true rfl | exact decide_eq_true (by omega) | exact decide_eq_true (by simp only [IntKind.wrap_i64]; omega)) allE_nil))) (wkV.refl _) (H'' := [.cells [.gsl .any 1 0 M.length, .bool true true] 57, .row M.length 2 (F2 M) ccE none, .row M.length 2 (F2 M) ccE none, .cells [.int .i64 false (X.getD k zM).at', .int .i64 false (X.getD k zM).n, .rsl (k + 1) (X.getD k zM).K.length (X.getD k zM).c] 45, .cells [.gsl .any 5 0 M.length, .bool true true] 57, .row M.length 2 (F2 M) ccE none]) ⟨wkI.refl _, wkI.refl _, wkI.refl _, wkI.refl _, ⟨rfl, wkA_any, wkA.refl _, trivial⟩, wkI_row (Nat.le_refl _) (fun i _ => by rw [Nat.zero_add]), trivial⟩ hP9 hB9 fun a10 Hr10 w10 hP10 hB10 => ?_)
    refine wp_parts (by kernel_rfl) (mb3 hR hRp hM hx (hf k (Nat.le_refl _)) hP10 hB10 fun a11 Hr11 w11 hP11 hB11 => ?_)
    generalize stepM (X.getD k zM) M = N at hP11 hB11 hnx hM2
    refine ev_codeW (EG_ok hR false (tLK_ok hR hRp N M) goodM_nil) 60 [0, 1, 2] .normal (by decide) (sm_b4 A0 X up c0 M N k (allE_cons (by rw [bne_self_eq_false]) (allE_cons (by rw [bne_self_eq_false]) (allE_cons (rowIsC_self _) (allE_cons (rowIsC_self _) (allE_cons (by first | exact decide_eq_true rfl | exact decide_eq_true (by omega) | exact decide_eq_true (by simp only [IntKind.wrap_i64]; omega)) (allE_cons (by first | exact decide_eq_true rfl | exact decide_eq_true (by omega) | exact decide_eq_true (by simp only [IntKind.wrap_i64]; omega)) (allE_cons (by first | exact decide_eq_true rfl | exact decide_eq_true (by omega) | exact decide_eq_true (by simp only [IntKind.wrap_i64]; omega)) (allE_cons rfl (allE_cons rfl (allE_cons (rowIsC_self _) (allE_cons (by first | exact decide_eq_true rfl | exact decide_eq_true (by omega) | exact decide_eq_true (by simp only [IntKind.wrap_i64]; omega)) (allE_cons rfl (allE_cons (rowIsC_self _) (allE_cons (by first | exact decide_eq_true rfl | exact decide_eq_true (by omega) | exact decide_eq_true (by simp only [IntKind.wrap_i64]; omega)) (allE_cons rfl (allE_cons (by first | exact decide_eq_true rfl | exact decide_eq_true (by omega) | exact decide_eq_true (by simp only [IntKind.wrap_i64]; omega)) (allE_cons rfl (allE_cons (by rw [beq_self_eq_true]; rfl) allE_nil))))))))))))))))))) (wkV.refl _) (wkM.refl _) hP11 hB11 fun a12 Hr12 w12 hP12 hB12 => ?_
    refine ev_codeW hE 60 [0, 1, 2] .normal (by decide) (sm_l7 A0 X up c0 N k) (live'' := [(0, .rsl 0 X.length c0), (1, .bv .u64 up), (5, .ptr 0 0), (6, .gsl .any 2 0 N.length), (7, .int .i64 false (((k + 1 : Nat) : Int)))]) ⟨rfl, wkA.refl _, rfl, wkA.refl _, rfl, wkA.refl _, rfl, wkA.refl _, rfl, wkA_intE (by rw [IntKind.wrap_i64]; omega), trivial⟩ (wkM.refl _) hP12 hB12 fun a13 Hr13 w13 hP13 hB13 => ?_
    exact hnx _ _ _ hP13 hB13
  rcases first_no (fun i => fineX (X.getD i zM)) X.length with hall | ⟨j, hj, hno, hbef⟩
  · refine ev_loopG (by kernel_rfl) X.length (.exit 0) rfl (fun k : Nat => [(0, .rsl 0 X.length c0), (1, .bv .u64 up), (5, .ptr 0 0), (6, .gsl .any 2 0 (runM X k).length), (7, .int .i64 false ((k : Int)))]) (fun k : Nat => [.cells [.gsl .any 1 0 (runM X k).length, .bool true true] 57, .row (runM X k).length 2 (F2 (runM X k)) ccE none, .row (runM X k).length 2 (F2 (runM X k)) ccE none]) (live' := [(0, .rsl 0 X.length c0), (1, .bv .u64 up), (5, .ptr 0 0), (6, .gsl .any 2 0 (runM X X.length).length)]) (H' := [.cells [.gsl .any 1 0 (runM X X.length).length, .bool true true] 57, .row (runM X X.length).length 2 (F2 (runM X X.length)) ccE none, .row (runM X X.length).length 2 (F2 (runM X X.length)) ccE none]) (fun k hk a6 Hr6 w6 Q' hP6 hB6 hnx => hround k hk (fun i hi => hall i (by omega)) a6 Hr6 w6 Q' hP6 hB6 hnx) (fun a6 Hr6 w6 Q' hP6 hB6 hnx => ?_) hP5 hB5 fun a6 Hr6 w6 hP6 hB6 => ?_
    · refine wp_parts (by kernel_rfl) (ev_codeW hE 60 [0, 1, 2] (.exit 0) (by decide) (sm_lx A0 X up c0 (runM X X.length) X.length (allE_cons (by first | exact decide_eq_false rfl | exact decide_eq_false (by omega) | exact decide_eq_false (by simp only [IntKind.wrap_i64]; omega)) allE_nil)) (wkV.refl _) (wkM.refl _) hP6 hB6 fun a7 Hr7 w7 hP7 hB7 => ?_)
      exact hnx _ _ _ hP7 hB7
    exact memory_end hR hRp (run_keep (X := X) (n := X.length) hall X.length (Nat.le_refl _)) hP6 hB6
  · refine ev_loopG (by kernel_rfl) j .ret rfl (fun k : Nat => [(0, .rsl 0 X.length c0), (1, .bv .u64 up), (5, .ptr 0 0), (6, .gsl .any 2 0 (runM X k).length), (7, .int .i64 false ((k : Int)))]) (fun k : Nat => [.cells [.gsl .any 1 0 (runM X k).length, .bool true true] 57, .row (runM X k).length 2 (F2 (runM X k)) ccE none, .row (runM X k).length 2 (F2 (runM X k)) ccE none]) (live' := [(4, .bool true true)]) (H' := []) (fun k hk a6 Hr6 w6 Q' hP6 hB6 hnx => hround k (by omega) (fun i hi => hbef i (by omega)) a6 Hr6 w6 Q' hP6 hB6 hnx) (fun a6 Hr6 w6 Q' hP6 hB6 hnx => ?_) hP5 hB5 fun a6 Hr6 w6 hP6 hB6 => ?_
    · have hno : fineX (X.getD j zM) = false := hno
      have hx := rngM_get hX j
      generalize runM X j = M at hP6 hB6
      refine wp_parts (by kernel_rfl) (ev_codeW hE 60 [0, 1, 2] .normal (by decide) (sm_l0 A0 X up c0 M j (allE_cons (by first | exact decide_eq_true rfl | exact decide_eq_true (by omega) | exact decide_eq_true (by simp only [IntKind.wrap_i64]; omega)) allE_nil)) (wkV.refl _) (wkM.refl _) hP6 hB6 fun a7 Hr7 w7 hP7 hB7 => ?_)
      refine wp_parts (by kernel_rfl) (wp_bk (by kernel_rfl) ?_)
      refine wp_parts (by kernel_rfl) (ev_codeW hE 60 [0, 1, 2, 3] .normal (by decide) (sm_b0 A0 X up c0 M j (allE_cons (by first | exact decide_eq_true rfl | exact decide_eq_true (by omega) | exact decide_eq_true (by simp only [IntKind.wrap_i64]; omega)) allE_nil)) (wkV.refl _) (wkM.refl _) hP7 hB7 fun a8 Hr8 w8 hP8 hB8 => ?_)
      have hP8 : PatSt (RM A0 X) ([].map markD) [(0, .rsl 0 X.length c0), (1, .bv .u64 up), (5, .ptr 0 0), (6, .gsl .any 2 0 M.length), (7, .int .i64 false (j : Int)), (8, .ptr 3 0)] Try.f4.ntmps ⟨[.cells [.gsl .any 1 0 M.length, .bool true true] 57, .row M.length 2 (F2 M) ccE none, .row M.length 2 (F2 M) ccE none, .cells [.int .i64 false (X.getD j zM).at', .int .i64 false (X.getD j zM).n, .rsl (j + 1) (X.getD j zM).K.length (X.getD j zM).c] 45], [], allW⟩ a8 Hr8 := patSt_cellsR (l := 3) (cs' := [.int .i64 false (X.getD j zM).at', .int .i64 false (X.getD j zM).n, .rsl (j + 1) (X.getD j zM).K.length (X.getD j zM).c]) rfl hswap hP8
      have hB8 : Bun (RM A0 X) [] w.heap.size w [.cells [.gsl .any 1 0 M.length, .bool true true] 57, .row M.length 2 (F2 M) ccE none, .row M.length 2 (F2 M) ccE none, .cells [.int .i64 false (X.getD j zM).at', .int .i64 false (X.getD j zM).n, .rsl (j + 1) (X.getD j zM).K.length (X.getD j zM).c] 45] Hr8 w8 := bun_cells (l := 3) (cs' := [.int .i64 false (X.getD j zM).at', .int .i64 false (X.getD j zM).n, .rsl (j + 1) (X.getD j zM).K.length (X.getD j zM).c]) rfl hB8
      refine wp_parts (by kernel_rfl) (mb1w hR hno hP8 hB8 fun a9 Hr9 w9 hP9 hB9 => ?_)
      exact hnx _ _ _ hP9 hB9
    exact ev_endR hE (vs := [.bool true true]) (fun rs => by kernel_rfl) hP6 hB6 (fun V hv => by cases hv; exact ⟨rfl, hB6.below⟩) (.inl rfl)
end Go.Proofs.Ytcfomhnfhalmaaa
end

section
set_option linter.unusedVariables false
set_option linter.unusedSimpArgs false
namespace Go.Proofs.Ytcfomhnfhalmaaa
open Go.RowKit Go.ChangeShapes Go.WideShapes Go.ChangeAt

/-- A cell of a plain kind: a number of this kind; none: a truth. -/
def Leaf : Option IntKind → Value → Prop
  | some k, v => ∃ x : Int, v = .int k x ∧ (Lit.int k x).wf = true
  | none, v => ∃ b : Bool, v = .bool b
def Leaves : List (Option IntKind) → List Value → Prop
  | [], [] => True
  | k :: ks, v :: vs => Leaf k v ∧ Leaves ks vs
  | _, _ => False
theorem Leaves.cons {k : Option IntKind} {ks : List (Option IntKind)} {vs : List Value} (h : Leaves (k :: ks) vs) : ∃ v r, vs = v :: r ∧ Leaf k v ∧ Leaves ks r := by
  cases vs with
  | nil => exact h.elim
  | cons v r => exact ⟨v, r, rfl, h.1, h.2⟩
theorem Leaves.nil {vs : List Value} (h : Leaves [] vs) : vs = [] := by
  cases vs with
  | nil => rfl
  | cons v r => exact h.elim
theorem Leaves.app : ∀ {a b : List (Option IntKind)} {u v : List Value}, Leaves a u → Leaves b v → Leaves (a ++ b) (u ++ v)
  | [], b, [], v, _, h => h
  | k :: a, b, x :: u, v, h, h' => ⟨h.1, Leaves.app h.2 h'⟩
  | [], _, _ :: _, _, h, _ => h.elim
  | _ :: _, _, [], _, h, _ => h.elim
theorem Leaves.len : ∀ {a : List (Option IntKind)} {u : List Value}, Leaves a u → u.length = a.length
  | [], [], _ => rfl
  | k :: a, x :: u, h => by simp [Leaves.len h.2]
  | [], _ :: _, h => h.elim
  | _ :: _, [], h => h.elim

/-- The cells of fields that lie one behind the other. -/
def flatFs (P : Program) (g : TypeId → Option (List (Option IntKind))) : List Field → Nat → Option (List (Option IntKind))
  | [], _ => some []
  | f :: fs, off => (g f.type).bind fun a => if f.offset = off ∧ a.length = P.cellsOf f.type then (flatFs P g fs (off + a.length)).map (a ++ ·) else none
/-- The cells of a type of plain kinds. -/
def flatK (P : Program) : Nat → TypeId → Option (List (Option IntKind))
  | 0, _ => none
  | n + 1, t => match P.underlying t with
    | some (.int k) => some [some k]
    | some .bool => some [none]
    | some (.array m e) => (flatK P n e).bind fun a => if a.length = P.cellsOf e ∧ m * a.length = P.cellsOf t then some (List.replicate m a).flatten else none
    | some (.struct fs) => (flatFs P (flatK P n) fs.toList 0).bind fun a => if a.length = P.cellsOf t then some a else none
    | _ => none

section
variable {H : Type} {enc : TypeId × Value → H} {P : Program} {w : World} {base : Nat} {sp : Nat → Bool} {held : Bool}

theorem rep_leaves {a : List (Option IntKind)} : ∀ (m : Nat) (cs : List Value), cs.length = m * a.length → (∀ i, i < m → Leaves a ((cs.drop (i * a.length)).take a.length)) → Leaves (List.replicate m a).flatten cs
  | 0, cs, hl, _ => by
    have : cs = [] := List.length_eq_zero_iff.1 (by simpa using hl)
    subst this; trivial
  | m + 1, cs, hl, h => by
    have h0 := h 0 (by omega)
    simp only [Nat.zero_mul, List.drop_zero] at h0
    have hm : (m + 1) * a.length = a.length + m * a.length := by rw [Nat.succ_mul]; omega
    have ih := rep_leaves (a := a) m (cs.drop a.length) (by rw [List.length_drop, hl, hm]; omega) (fun i hi => by
      have := h (i + 1) (by omega)
      rw [List.drop_drop]
      rwa [show (i + 1) * a.length = a.length + i * a.length by rw [Nat.succ_mul]; omega] at this)
    rw [List.replicate_succ, List.flatten_cons, ← List.take_append_drop a.length cs]
    exact h0.app ih

theorem fs_leaves {g : TypeId → Option (List (Option IntKind))} {tr : TypeId → List Value → Option (DataW H × List MemPlace)} {cs : List Value}
    (hg : ∀ t a us x, g t = some a → tr t us = some x → Leaves a us ∧ x.2 = []) : ∀ (fs : List Field) (off : Nat) (a : List (Option IntKind)) (xs : List (DataW H × List MemPlace)), flatFs P g fs off = some a →
      off + a.length ≤ cs.length → xs.length = fs.length → (∀ (i : Nat) (f : Field), fs[i]? = some f → tr f.type ((cs.drop f.offset).take (P.cellsOf f.type)) = xs[i]?) → Leaves a ((cs.drop off).take a.length) ∧ xs.flatMap (·.2) = []
  | [], off, a, xs, h, _, hx, _ => by
    simp [flatFs] at h; subst h
    have : xs = [] := List.length_eq_zero_iff.1 (by simpa using hx)
    subst this
    exact ⟨by simp; trivial, rfl⟩
  | f :: fs, off, a, xs, h, hl, hx, ht => by
    simp only [flatFs, Option.bind_eq_some_iff] at h
    obtain ⟨b, hb, h⟩ := h
    split at h
    · rename_i hc
      obtain ⟨ho, hlen⟩ := hc
      simp only [Option.map_eq_some_iff] at h
      obtain ⟨c, hc, rfl⟩ := h
      cases xs with
      | nil => simp at hx
      | cons x xs =>
        have h0 := ht 0 f rfl
        rw [ho, ← hlen] at h0
        obtain ⟨l0, p0⟩ := hg _ _ _ x hb (by simpa using h0)
        simp only [List.length_append] at hl
        obtain ⟨l1, p1⟩ := fs_leaves (cs := cs) hg fs (off + b.length) c xs hc (by omega) (by simpa using hx) (fun i q hq => by simpa using ht (i + 1) q (by simpa using hq))
        refine ⟨?_, by simp [p0, p1]⟩
        have e : (cs.drop off).take (b ++ c).length = (cs.drop off).take b.length ++ (cs.drop (off + b.length)).take c.length := by
          rw [List.length_append, List.take_add, List.drop_drop]
        rw [e]
        exact l0.app l1
    · cases h

theorem flat_open : ∀ (n : Nat) (t : TypeId) (a : List (Option IntKind)) (fuel : Nat) (cs : List Value) (x : DataW H × List MemPlace), flatK P n t = some a → DataW.trod enc P w base sp held fuel t cs = some x → Leaves a cs ∧ x.2 = []
  | 0, t, a, fuel, cs, x, h, _ => by simp [flatK] at h
  | n + 1, t, a, fuel, cs, x, h, hx => by
    unfold flatK at h
    split at h
    · rename_i k hu
      simp at h; subst h
      cases fuel with
      | zero => simp [DataW.trod] at hx
      | succ m =>
        unfold DataW.trod at hx
        rw [hu] at hx
        split at hx <;> simp_all
        obtain ⟨⟨rfl, hw⟩, rfl⟩ := hx
        exact ⟨⟨⟨_, rfl, hw⟩, trivial⟩, rfl⟩
    · rename_i hu
      simp at h; subst h
      cases fuel with
      | zero => simp [DataW.trod] at hx
      | succ m =>
        unfold DataW.trod at hx
        rw [hu] at hx
        split at hx <;> simp_all
        subst hx
        exact ⟨⟨⟨_, rfl⟩, trivial⟩, rfl⟩
    · rename_i m e hu
      simp only [Option.bind_eq_some_iff] at h
      obtain ⟨b, hb, h⟩ := h
      split at h
      · rename_i hc
        simp at h; subst h
        obtain ⟨xs, q, rfl, rfl, hl, hxs, hi⟩ := DataW.trod_array hu hx
        have hall : ∀ i, i < m → ∃ y, xs[i]? = some y ∧ Leaves b ((cs.drop (i * b.length)).take b.length) ∧ y.2 = [] := fun i him => by
          have h1 := hi i him
          obtain ⟨y, hy⟩ : ∃ y, xs[i]? = some y := ⟨_, List.getElem?_eq_getElem (by omega)⟩
          rw [hy, ← hc.1] at h1
          exact ⟨y, hy, flat_open n e b q _ y hb h1⟩
        refine ⟨rep_leaves m cs (by rw [hl, ← hc.2]) fun i him => by obtain ⟨y, _, h2, _⟩ := hall i him; exact h2, ?_⟩
        show xs.flatMap (·.2) = []
        rw [List.flatMap_eq_nil_iff]
        intro y hy
        obtain ⟨i, hi2⟩ := List.getElem?_of_mem hy
        have hlt := (List.getElem?_eq_some_iff.1 hi2).1
        obtain ⟨y', hy', _, h3⟩ := hall i (by omega)
        rw [hi2] at hy'
        rw [Option.some.inj hy']; exact h3
      · cases h
    · rename_i fs hu
      simp only [Option.bind_eq_some_iff] at h
      obtain ⟨b, hb, h⟩ := h
      split at h
      · rename_i hc
        simp at h; subst h
        obtain ⟨xs, q, rfl, rfl, hl, hxs, hi⟩ := DataW.trod_struct hu hx
        have := fs_leaves (P := P) (cs := cs) (tr := fun t us => DataW.trod enc P w base sp held q t us) (fun t a us x h1 h2 => flat_open n t a q us x h1 h2) fs.toList 0 b xs hb (by rw [hl, hc]; omega) (by simpa using hxs) (fun i f hf => hi i f (by simpa using hf))
        rw [List.drop_zero, hc, ← hl, List.take_length] at this
        exact this
      · cases h
    · cases h

/-- Arguments read behind a call that has made memory as they read before. -/
theorem args_keep (hl : laidOutB P = true) {W W' : World} (hb : Below W.heap.size W W') (sp : Nat → Bool) : ∀ (ts : List TypeId) (vs : List Value) (ds : List (DataW H)) (p : List MemPlace), (∀ t, t ∈ ts → P.readableRec t = true ∧ t < P.types.size) →
    DataW.TrodAll enc P W 0 (fun _ => true) true ts vs ds p → (∀ x, x ∈ p → x.block < W.heap.size) → (∀ x, x ∈ p → sp x.block = true) → DataW.TrodAll enc P W' 0 sp true ts vs ds p
  | [], [], [], p, _, h, _, _ => h
  | t :: ts, v :: vs, d :: ds, p, hr, ⟨p1, q, h1, h2, e⟩, hlt, hsp => by
    subst e
    have := hr t (by simp)
    exact ⟨p1, q, WideElems.Trod_stays hl this.1 this.2 h1 (fun x hx => hb.same (hlt x (by simp [hx]))) (fun x hx => hsp x (by simp [hx])),
      args_keep hl hb sp ts vs ds q (fun t ht => hr t (by simp [ht])) h2 (fun x hx => hlt x (by simp [hx])) (fun x hx => hsp x (by simp [hx])), rfl⟩
  | [], [], _ :: _, _, _, h, _, _ => h.elim
  | [], _ :: _, _, _, _, h, _, _ => h.elim
  | _ :: _, [], _, _, _, h, _, _ => h.elim
  | _ :: _, _ :: _, [], _, _, h, _, _ => h.elim
end
end Go.Proofs.Ytcfomhnfhalmaaa
end

section
set_option linter.unusedVariables false
set_option linter.unusedSimpArgs false
namespace Go.Proofs.Ytcfomhnfhalmaaa
open Go.RowKit Go.ChangeShapes Go.WideShapes Go.ChangeAt

section
variable {H : Type} {enc : TypeId × Value → H} {P : Program} {w : World} {base : Nat} {sp : Nat → Bool} {held : Bool}
theorem choose_list {α : Type} {n : Nat} {p : Nat → α → Prop} (h : ∀ i, i < n → ∃ x, p i x) : ∃ l : List α, l.length = n ∧ ∀ i x, l[i]? = some x → p i x := by
  induction n with
  | zero => exact ⟨[], rfl, fun i x hx => by simp at hx⟩
  | succ n ih =>
    obtain ⟨l, hl, hp⟩ := ih fun i hi => h i (by omega)
    obtain ⟨x, hx⟩ := h n (by omega)
    refine ⟨l ++ [x], by simp [hl], fun i y hy => ?_⟩
    by_cases hi : i < n
    · rw [List.getElem?_append_left (by omega)] at hy; exact hp i y hy
    · have : i < (l ++ [x]).length := (List.getElem?_eq_some_iff.1 hy).1
      obtain rfl : i = n := by simp [hl] at this; omega
      rw [List.getElem?_append_right (by omega)] at hy
      simp [hl] at hy; subst hy; exact hx
theorem flatten_at {n : Nat} : ∀ (L : List (List Value)), (∀ u ∈ L, u.length = n) → ∀ (j : Nat) (v : Value), L.flatten[j]? = some v → ∃ i k u, j = i * n + k ∧ k < n ∧ L[i]? = some u ∧ u[k]? = some v
  | [], _, j, v, h => by simp at h
  | u :: L, hL, j, v, h => by
    have hu : u.length = n := hL u (by simp)
    rw [List.flatten_cons] at h
    by_cases hj : j < u.length
    · rw [List.getElem?_append_left hj] at h
      exact ⟨0, j, u, by omega, by omega, rfl, h⟩
    · rw [List.getElem?_append_right (by omega)] at h
      obtain ⟨i, k, u', e, hk, h1, h2⟩ := flatten_at L (fun u hu => hL u (by simp [hu])) _ v h
      exact ⟨i + 1, k, u', by rw [Nat.succ_mul]; omega, hk, by simpa using h1, h2⟩
end
end Go.Proofs.Ytcfomhnfhalmaaa
end

section
set_option linter.unusedVariables false
set_option linter.unusedSimpArgs false
set_option maxRecDepth 100000
namespace Go.Proofs.Ytcfomhnfhalmaaa
open Go.RowKit Go.ChangeShapes Go.WideShapes Go.ChangeAt

theorem u64_of {a : Int} (h : (Lit.int .u64 a).wf = true) : ∃ b : BitVec 64, a = (b.toNat : Int) := by
  have := bounds_u64 h
  refine ⟨BitVec.ofInt 64 a, ?_⟩
  rw [BitVec.toNat_ofInt]; omega
theorem rowCells_cons {α : Type} (z : α) (g : α → List AV) (x : α) (xs : List α) : rowCells (x :: xs).length (fun i => g ((x :: xs).getD i z)) = ((AV.vals? (g x)).getD []) ++ rowCells xs.length (fun i => g (xs.getD i z)) := by
  unfold rowCells
  rw [List.length_cons, List.range_succ_eq_map, List.flatMap_cons, List.flatMap_map]
  rfl
theorem open_C2 : ∀ (L : List (List Value)), (∀ u ∈ L, Leaves [some .u8, some .u64] u) → ∃ xs : List C2, L.flatten = rowCells xs.length (F2 xs) ∧ xs.length = L.length
  | [], _ => ⟨[], rfl, rfl⟩
  | u :: L, h => by
    obtain ⟨xs, h1, h2⟩ := open_C2 L fun u hu => h u (by simp [hu])
    obtain ⟨_, r0, rfl, ⟨a0, rfl, w0⟩, l0⟩ := Leaves.cons (h u (by simp))
    obtain ⟨_, r1, rfl, ⟨a1, rfl, w1⟩, l1⟩ := Leaves.cons l0
    obtain rfl := Leaves.nil l1
    obtain ⟨b1, rfl⟩ := u64_of w1
    refine ⟨⟨a0, b1⟩ :: xs, ?_, by simp [h2]⟩
    rw [List.flatten_cons, h1]
    exact (rowCells_cons z2 k2 ⟨a0, b1⟩ xs).symm
def m3V (x : M3) : List Value := [.int .i64 x.at', .int .i64 x.n, .slice x.A x.K.length x.c]
def m3A (x : M3) : List AV := [.int .i64 false x.at', .int .i64 false x.n, .raw (.slice x.A x.K.length x.c)]
theorem flat_M3 : ∀ X : List M3, (X.map m3V).flatten = rowCells X.length (F3 X)
  | [] => rfl
  | x :: X => by
    rw [List.map_cons, List.flatten_cons, flat_M3 X]
    exact (rowCells_cons zM m3A x X).symm
theorem slAt_of {w : World} {base z : Nat} {ad : Addr} {L : List (List Value)} {n : Nat} (hc : n = z) (hpos : 0 < n) (hlen : ∀ u ∈ L, u.length = n) (hp : ∀ (i : Nat) (u : List Value), L[i]? = some u → w.cells? base (ad.add (i * z)) z = some u) : SlAt w (some ad) L.flatten := by
  subst hc
  have hcell : ∀ (j : Nat) (v : Value), L.flatten[j]? = some v → w.cell? (ad.add j) = some v := fun j v hj => by
    obtain ⟨i, q, u, rfl, hq, h1, h2⟩ := flatten_at (n := n) L hlen j v hj
    obtain ⟨_, _, h3⟩ := World.cells?_some (hp i u h1)
    have h4 := h3 q (by omega)
    rw [Go.Deep.add_add, h2] at h4
    exact h4
  by_cases hz : L.flatten = []
  · exact .inl hz
  · obtain ⟨v, r, hv⟩ := List.exists_cons_of_ne_nil hz
    have h5 := hcell 0 v (by rw [hv]; rfl)
    have hs : ad.spot = none := by simpa [Addr.add] using World.cell?_spot h5
    obtain ⟨b, off, spot⟩ := ad
    obtain rfl : spot = none := hs
    refine .inr ⟨b, off, rfl, ?_, fun j u hu => by rw [← Addr.add_lit]; exact hcell j u hu⟩
    have := World.block_lt_of_cell? w _ h5
    rw [Addr.add_lit] at this
    exact this
section
variable {H : Type} {enc : TypeId × Value → H} {P : Program} {w : World} {base : Nat} {sp : Nat → Bool} {held : Bool}
/-- A slice that lies in memory, opened. -/
theorem open_in {t e : TypeId} {fuel : Nat} {cs : List Value} {x : DataW H × List MemPlace} {a : List (Option IntKind)} (n : Nat) (ht : P.underlying t = some (.slice e)) (ha : flatK P n e = some a) (hc : a.length = P.cellsOf e) (hpos : 0 < a.length) (hf : DataW.trod enc P w base sp held fuel t cs = some x) :
    ∃ (A : Option Addr) (len cap : Nat) (L : List (List Value)), cs = [.slice A len cap] ∧ len ≤ cap ∧ L.length = len ∧ (∀ u ∈ L, Leaves a u) ∧ SlAt w A L.flatten := by
  rcases Go.Deep.open_slice ht hf with ⟨h0, _⟩ | ⟨ad, len, cap, m, k, D, Pl, h0, _, hl, _, hm, _, hx⟩
  · exact ⟨none, 0, 0, [], h0, Nat.le_refl _, rfl, fun u hu => by simp at hu, .inl rfl⟩
  · have hmn : len ≤ m := by rw [hm]; split <;> omega
    obtain ⟨L, hL, hp⟩ := choose_list (n := len) (p := fun i (cs' : List Value) => w.cells? base (ad.add (i * P.cellsOf e)) (P.cellsOf e) = some cs' ∧ DataW.trod enc P w base sp held k e cs' = some (D i, Pl i)) (fun i hi => hx i (by omega))
    have hleaf : ∀ u ∈ L, Leaves a u := fun u hu => by
      obtain ⟨i, hi⟩ := List.getElem?_of_mem hu
      exact (flat_open n e a k u _ ha (hp i u hi).2).1
    exact ⟨some ad, len, cap, L, h0, hl, hL, hleaf, slAt_of hc hpos (fun u hu => (hleaf u hu).len) fun i u h => (hp i u h).1⟩
theorem open_M3 {t e : TypeId} {f0 f1 f2 : Field} {fuel : Nat} {cs : List Value} {x : DataW H × List MemPlace} (ht : P.underlying t = some (.struct #[f0, f1, f2])) (o0 : f0.offset = 0) (o1 : f1.offset = 1) (o2 : f2.offset = 2) (k0 : P.cellsOf f0.type = 1) (k1 : P.cellsOf f1.type = 1) (k2' : P.cellsOf f2.type = 1) (kt : P.cellsOf t = 3) (i0 : flatK P 4 f0.type = some [some .i64]) (i1 : flatK P 4 f1.type = some [some .i64]) (hs : P.underlying f2.type = some (.slice e)) (ha : flatK P 4 e = some [some .u8, some .u64]) (hc : 2 = P.cellsOf e)
    (h : DataW.trod enc P w base sp held fuel t cs = some x) : ∃ y : M3, cs = m3V y ∧ Rng y ∧ SlAt w y.A (rowCells y.K.length (F2 y.K)) := by
  obtain ⟨y0, y1, y2, n, _, hl, h0, h1, h2⟩ := Go.Deep.trod_struct3 ht h
  rw [kt] at hl
  match cs, hl with
  | [c0, c1, c2'], _ =>
    rw [o0, k0] at h0
    rw [o1, k1] at h1
    rw [o2, k2'] at h2
    obtain ⟨_, r0, e0, ⟨a0, rfl, w0⟩, l0⟩ := Leaves.cons (flat_open 4 f0.type _ n _ _ i0 h0).1
    obtain ⟨_, r1, e1, ⟨a1, rfl, w1⟩, l1⟩ := Leaves.cons (flat_open 4 f1.type _ n _ _ i1 h1).1
    obtain ⟨A, len, cap, L, e2, q1, q2, q3, q4⟩ := open_in 4 hs ha hc (by decide) h2
    have e0 : [c0] = .int .i64 a0 :: r0 := e0
    have e1 : [c1] = .int .i64 a1 :: r1 := e1
    have e2 : [c2'] = [.slice A len cap] := e2
    have u0 := (List.cons.inj e0).1
    have u1 := (List.cons.inj e1).1
    have u2 := (List.cons.inj e2).1
    clear e0 e1 e2
    subst u0 u1 u2
    obtain ⟨xs, g1, g2⟩ := open_C2 L q3
    rw [g1] at q4
    obtain rfl : len = xs.length := by omega
    have b0 := bounds_i64 w0
    have b1 := bounds_i64 w1
    exact ⟨⟨a0, a1, A, xs, cap⟩, rfl, ⟨show -9223372036854775808 ≤ a0 ∧ a0 < 9223372036854775808 by omega, show -9223372036854775808 ≤ a1 ∧ a1 < 9223372036854775808 by omega, q1⟩, q4⟩
/-- The slice of calls that is handed in. -/
theorem open_mem {r : Reach} {b0 : Nat} {t s e : TypeId} {f0 f1 f2 : Field} {v : Value} {d : DataW H} {p : List MemPlace} (hsl : P.underlying t = some (.slice s)) (ht : P.underlying s = some (.struct #[f0, f1, f2])) (o0 : f0.offset = 0) (o1 : f1.offset = 1) (o2 : f2.offset = 2) (k0 : P.cellsOf f0.type = 1) (k1 : P.cellsOf f1.type = 1) (k2' : P.cellsOf f2.type = 1) (kt : P.cellsOf s = 3) (i0 : flatK P 4 f0.type = some [some .i64]) (i1 : flatK P 4 f1.type = some [some .i64]) (hs : P.underlying f2.type = some (.slice e)) (ha : flatK P 4 e = some [some .u8, some .u64]) (hc : 2 = P.cellsOf e)
    (hv : Value.okWide P w r b0 t v) (h : DataW.Trod enc P w base sp held t v d p) :
    ∃ (A : Option Addr) (X : List M3) (cap : Nat), v = .slice A X.length cap ∧ X.length ≤ cap ∧ (∀ x ∈ X, Rng x) ∧ SlAt w A (rowCells X.length (F3 X)) ∧ ∀ x ∈ X, SlAt w x.A (rowCells x.K.length (F2 x.K)) := by
  obtain ⟨fuel, hf⟩ := h
  obtain ⟨A, len, cap, rfl⟩ := okWide_slice hsl hv
  rcases Go.Deep.open_slice hsl hf with ⟨h0, _⟩ | ⟨ad, len', cap', m, k, D, Pl, h0, _, hl, _, hm, _, hx⟩
  · simp only [Value.cells, List.cons.injEq, Value.slice.injEq, and_true] at h0
    obtain ⟨rfl, rfl, rfl⟩ := h0
    exact ⟨none, [], 0, rfl, Nat.le_refl _, fun x hx => by simp at hx, .inl rfl, fun x hx => by simp at hx⟩
  · have h0' : A = some ad ∧ len = len' ∧ cap = cap' := by
      have := congrArg List.head? h0
      simpa [Value.cells] using this
    obtain ⟨rfl, rfl, rfl⟩ := h0'
    have hmn : len ≤ m := by rw [hm]; split <;> omega
    obtain ⟨X, hXl, hp⟩ := choose_list (n := len) (p := fun i (y : M3) => w.cells? base (ad.add (i * P.cellsOf s)) (P.cellsOf s) = some (m3V y) ∧ Rng y ∧ SlAt w y.A (rowCells y.K.length (F2 y.K))) (fun i hi => by
      obtain ⟨cs', q1, q2⟩ := hx i (by omega)
      obtain ⟨y, rfl, q3, q4⟩ := open_M3 ht o0 o1 o2 k0 k1 k2' kt i0 i1 hs ha hc q2
      exact ⟨y, q1, q3, q4⟩)
    refine ⟨some ad, X, cap, by rw [hXl], by omega, fun x hx => ?_, ?_, fun x hx => ?_⟩
    · obtain ⟨i, hi⟩ := List.getElem?_of_mem hx
      exact (hp i x hi).2.1
    · rw [← flat_M3]
      refine slAt_of (base := base) (n := 3) kt.symm (by decide) (fun u hu => ?_) fun i u h => ?_
      · obtain ⟨y, _, rfl⟩ := List.mem_map.1 hu
        rfl
      · rw [List.getElem?_map, Option.map_eq_some_iff] at h
        obtain ⟨y, h1, rfl⟩ := h
        exact (hp i y h1).1
    · obtain ⟨i, hi⟩ := List.getElem?_of_mem hx
      exact (hp i x hi).2.2
end
end Go.Proofs.Ytcfomhnfhalmaaa
end
