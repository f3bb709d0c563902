/- The law StoreHolds, any values. No condition. -/
import Derived.Test.YtiglfbnicihpmaaStoreM
import Derived.Test.YtiglfbnicihpmaaStoreL
set_option linter.unusedVariables false
set_option linter.unusedSimpArgs false
set_option maxRecDepth 100000
namespace Go.Proofs.Ytiglfbnicihpmaa
open Go.RowKit

set_option maxHeartbeats 8000000 in
theorem storeHolds_any (x y z m0 m1 m2 : Vl) (A : Option Addr) (bs : List Vl) (c : Nat) (w : World) (hS : SlAt w A (bs.flatMap wdC)) (hcap : bs.length ≤ c) (hU : U x.l) :
    Calls Try.prog 5 #[.agg (x.cells ++ y.cells ++ z.cells).toArray, .agg (wdC m0 ++ wdC m1 ++ wdC m2).toArray, .slice A bs.length c] w fun e w' => e = .returned (.bool true) ∧ Below w.heap.size w w' := by
  obtain ⟨hAs, hRd⟩ := rowB_rd hS
  have hRw := rowB_ok (A := A) (bs := bs) hAs
  have hE := hEJ hRw
  have hrel : RelL (rows1 (rowB A bs)) [] [.agg (vlA x ++ vlA y ++ vlA z), .agg (wdA m0 ++ wdA m1 ++ wdA m2), .rsl 0 (rowB A bs).n c] [.agg (x.cells ++ y.cells ++ z.cells).toArray, .agg (wdC m0 ++ wdC m1 ++ wdC m2).toArray, .slice A bs.length c] := .cons (.agg (RelL.of_vals rfl)) (.cons (.agg (RelL.of_vals rfl)) (.cons (.rsl rfl (by exact hcap)) .nil))
  have hN : ((rowB A bs).n : Int) = (bs.length : Int) := rfl
  by_cases h12 : 12 < bs.length
  · exact ev_calls_rd hE 60 (sh_much x y z m0 m1 m2 A bs c (allE_cons (by rw [hN]; simp; omega) allE_nil)).is rfl hrel w hRd
  have e9 : sR h9 = h10 := by kernel_rfl
  have e9' : sR (sL h9) = dropSeq 1 (sL h9) := by kernel_rfl
  have e10 : dropSeq 4 h10 = h14 := by kernel_rfl
  have e14 : sR h14 = dropSeq 1 h14 := by kernel_rfl
  have rc1 := cost_right (a := lab3 x y z) (show (2200 : Int) ≤ exC x y z + 2100 by have := exC_lo x y z; omega) (show exC x y z + 2100 ≤ 22100 by have := (exC_bd x y z).2; omega) (by have := (exC_bd x y z).1; omega) (by omega) (by omega) (by omega)
  have rc2 := cost_right (a := lab3 x y z) (show (0 : Int) ≤ exM x y z from (exM_bd x y z).1) (exM_hi x y z) (exM_bd x y z).1 (by omega) (by omega) (by omega)
  have rc3 := cost_right (a := lab3 x y z) (show (0 : Int) ≤ exL x y z from (exL_bd x y z).1) (exL_bd x y z).2 (exL_bd x y z).1 (by omega) (by omega) (by omega)
  have hlab : lab3 x y z = bits .or .u64 (bits .or .u64 x.l y.l) z.l := by
    show orI (orI (orI 0 x.l) y.l) z.l = _
    rw [orI_zero hU]; rfl
  have hbd : ∀ k : Nat, k < bs.length → decide (0 ≤ (k : Int) ∧ (k : Int) < ((rowB A bs).n : Int)) = true := fun k hk => by rw [hN]; simp; omega
  have hwk : ∀ k : Nat, k ≤ bs.length → IntKind.i64.wrap ((k : Int) + 1) = ((k + 1 : Nat) : Int) := fun k hk => by rw [IntKind.wrap_i64]; omega
  have tail : ∀ a Hr w1 (hP : PatSt (rows1 (rowB A bs)) ([].map markD) [(2, .rsl 0 (rowB A bs).n c), (4, .ptr 0 0), (6, .ptr 1 0), (15, .ptr 2 0), (16, .int .i64 true 0)] Try.f5.ntmps ⟨[.cells (wdA m0 ++ wdA m1 ++ wdA m2) 49, .cells [.bool true false] 4, .cells [.raw (.slice none 0 0)] 38], [], allW⟩ a Hr) (hB : Bun (rows1 (rowB A bs)) [] w.heap.size w [.cells (wdA m0 ++ wdA m1 ++ wdA m2) 49, .cells [.bool true false] 4, .cells [.raw (.slice none 0 0)] 38] Hr w1),
      (dropSeq 1 (sL h9)).wp (EJ (rows1 (rowB A bs))).P (Exit.then (h10.wp (EJ (rows1 (rowB A bs))).P (bodyPostM Fence.wide 0 (EJ (rows1 (rowB A bs))).P Try.f5 (fun e w' => e = .returned (.bool true) ∧ Below w.heap.size w w'))) (bodyPostM Fence.wide 0 (EJ (rows1 (rowB A bs))).P Try.f5 (fun e w' => e = .returned (.bool true) ∧ Below w.heap.size w w'))) a w1 := by
    intro a1 Hr1 w1 hP1 hB1
    refine wp_bk (by kernel_rfl) ?_
    obtain ⟨hP2, hB2⟩ := nil_row (l := 2) (s := 5) (F := (fun i => vzA (bs.getD i v0))) (e := 27) (by decide) rfl hP1 hB1
    have hP2' := patSt_live (live' := [(2, .rsl 0 (rowB A bs).n c), (4, .ptr 0 0), (6, .ptr 1 0), (15, .ptr 2 0), (16, .int .i64 false ((0 : Nat) : Int))]) (patSt_int (d := 16) (k := .i64) (l := true) (x := 0) (l' := false) hP2 (by kernel_rfl) (by decide) rfl) (looks_of (by rfl)) (by kernel_rfl)
    refine ev_loopG (by kernel_rfl) bs.length (.exit 2) rfl (fun k => [(2, .rsl 0 (rowB A bs).n c), (4, .ptr 0 0), (6, .ptr 1 0), (15, .ptr 2 0), (16, .int .i64 false ((k : Nat) : Int))]) (fun k => [.cells (wdA m0 ++ wdA m1 ++ wdA m2) 49, .cells [.bool true false] 4, .cells [.gsl .top 3 0 k] 38, .row k 5 (fun i => vzA (bs.getD i v0)) 27 none]) (live' := [(2, .rsl 0 (rowB A bs).n c), (4, .ptr 0 0), (6, .ptr 1 0), (15, .ptr 2 0)]) (H' := [.cells (wdA m0 ++ wdA m1 ++ wdA m2) 49, .cells [.bool true false] 4, .cells [.gsl .top 3 0 bs.length] 38, .row bs.length 5 (fun i => vzA (bs.getD i v0)) 27 none]) (fun k hk a Hr w Q' hP hB hn => ?_) (fun a Hr w Q' hP hB hn => ?_) hP2' hB2 fun a3 Hr3 w3 hP3 hB3 => ?_
    · have hp := sh_r x y z m0 m1 m2 A bs c k (allE_cons (by rw [hN]; simp; omega) (allE_cons (hbd k hk) (allE_cons (decide_eq_true (Nat.le_refl _)) (allE_cons (decide_eq_true (by omega)) allE_nil))))
      rw [hwk k (by omega)] at hp
      refine ev_codeS hE 60 [0, 1, 2, 5] .normal (by kernel_rfl) hp hP hB fun a' Hr' w' hP' hB' => hn a' Hr' w' ?_ ?_
      · refine patSt_row (l := 3) (n' := k + 1) (F' := (fun i => vzA (bs.getD i v0))) rfl (Nat.le_refl _) (fun i hi => ?_) hP'
        rcases Nat.lt_or_ge i k with h | h
        · have hb : Nat.blt i k = true := by rw [Nat.blt_eq]; exact h
          simp only [hb, cond_true]
        · obtain rfl : i = k := by omega
          have hb : Nat.blt i i = false := by rw [Bool.eq_false_iff]; intro h; rw [Nat.blt_eq] at h; exact Nat.lt_irrefl _ h
          simp only [hb, cond_false, Nat.sub_self, Int.toNat_natCast]
          rfl
      · exact bun_row (l := 3) (n' := k + 1) (F' := (fun i => vzA (bs.getD i v0))) rfl hB'
    · exact ev_codeS hE 60 [0, 1, 2, 3] (.exit 2) (by kernel_rfl) (sh_rx x y z m0 m1 m2 A bs c bs.length (allE_cons (by rw [hN]; simp) allE_nil)) hP hB hn
    refine ev_seqs hE 60 4 (sh_c x y z m0 m1 m2 A bs c (allE_cons (decide_eq_true (Nat.le_refl _)) (allE_cons (decide_eq_true (by omega)) allE_nil))) hP3 hB3 fun a4 Hr4 w4 hP4 hB4 _ => ?_
    rw [e10]
    refine wp_parts (by kernel_rfl) ?_
    rw [e14]
    refine ev_seqs hE 60 1 (sh_d x y z m0 m1 m2 A bs c) hP4 hB4 fun a5 Hr5 w5 hP5 hB5 _ => ?_
    have hP6 := patSt_row (l := 6) (n' := bs.length + 1) (F' := (fun i => vzA ((bs ++ [m0]).getD i v0))) rfl (Nat.le_refl _) (fun i hi => by
      rcases Nat.lt_or_ge i bs.length with h | h
      · have hb : Nat.blt i bs.length = true := by rw [Nat.blt_eq]; exact h
        simp only [hb, cond_true]
        rw [List.getD_eq_getElem?_getD, List.getD_eq_getElem?_getD, List.getElem?_append_left h]
      · obtain rfl : i = bs.length := by omega
        have hb : Nat.blt bs.length bs.length = false := by rw [Bool.eq_false_iff]; intro h; rw [Nat.blt_eq] at h; exact Nat.lt_irrefl _ h
        simp only [hb, cond_false, Nat.sub_self]
        rw [List.getD_eq_getElem?_getD, List.getElem?_append_right (Nat.le_refl _), Nat.sub_self]
        rfl) hP5
    have hB6 := bun_row (l := 6) (n' := bs.length + 1) (F' := (fun i => vzA ((bs ++ [m0]).getD i v0))) rfl hB5
    have hP7 := patSt_cells (l := 9) (cs' := [.int .i64 false ((0 : Nat) : Int)]) rfl rfl rfl hP6
    have hB7 := bun_cells (l := 9) (cs' := [.int .i64 false ((0 : Nat) : Int)]) rfl hB6
    have hP8 := patSt_cells (l := 10) (cs' := [.bool false true]) rfl rfl rfl hP7
    have hB8 := bun_cells (l := 10) (cs' := [.bool false true]) rfl hB7
    have hup := upto_fx (x0 := vz m0) (xs := xsS m0 bs) rfl (xsS_l m0 bs) (by rw [xsS_len]; omega)
    have hfx := fun k hk => (gR_fx (x0 := vz m0) (xs := xsS m0 bs) rfl (xsS_l m0 bs) (by rw [xsS_len]; omega) k hk).2
    have hseq := fun lb hlb => seqJ (n1 := bs.length + 1) (b1 := 7) (b2 := 8) (lr := 6) (fz := [7, 8, 6, 3]) (x0 := vz m0) (xs := xsS m0 bs) (Fx := (fun i => vzA ((bs ++ [m0]).getD i v0))) (cs := vzA m0) (H := [.cells (wdA m0 ++ wdA m1 ++ wdA m2) 49, .cells [.bool true false] 4, .cells [.gsl .top 3 0 bs.length] 38, .row bs.length 5 (fun i => vzA (bs.getD i v0)) 27 (some 6), .cells (vzA m0) 27, .cells (vzA m0) 27, .row (bs.length + 1) 5 (fun i => vzA ((bs ++ [m0]).getD i v0)) 27 none, .cells (vzA m0) 27, .cells [.gsl .top 6 0 (bs.length + 1)] 38, .cells [.int .i64 false ((0 : Nat) : Int)] 3, .cells [.bool (sS m0 bs 0).1 (sS m0 bs 0).2] 4]) (w := w5) (by rw [xsS_len]) (by rw [xsS_len]; omega) (by rw [xsS_len]; omega) hP8 hB8.own rfl rfl rfl rfl rfl (fun i hi => by rw [xsS_at]; rfl) rfl rfl rfl hup lb hlb
    refine ev_rangeAt hE 60 (m := ⟨[.cells (wdA m0 ++ wdA m1 ++ wdA m2) 49, .cells [.bool true false] 4, .cells [.gsl .top 3 0 bs.length] 38, .row bs.length 5 (fun i => vzA (bs.getD i v0)) 27 (some 6), .cells (vzA m0) 27, .cells (vzA m0) 27, .row (bs.length + 1) 5 (fun i => vzA ((bs ++ [m0]).getD i v0)) 27 none, .cells (vzA m0) 27, .cells [.gsl .top 6 0 (bs.length + 1)] 38, .cells [.int .i64 false ((0 : Nat) : Int)] 3, .cells [.bool (sS m0 bs 0).1 (sS m0 bs 0).2] 4], [], allW⟩) (live := [(6, .ptr 1 0), (15, .ptr 2 0), (17, .ptr 4 0), (18, .func (.func 32) [.ptr 7 0, .ptr 8 0]), (19, .ptr 9 0), (20, .ptr 10 0), (134, .func (.func 32) [.ptr 7 0, .ptr 8 0])]) (n := Try.f5.ntmps) (caps := [.ptr 7 0, .ptr 8 0]) (xs := zsR (vz m0) (xsS m0 bs) (xsS m0 bs).length) (encs := encR) (by kernel_rfl) (fun _ => by kernel_rfl) (enters_of Try.func32 (by kernel_rfl) rfl) (by kernel_rfl) [7, 8, 6, 3] hseq (fun k x => [.int .i64 false (k : Nat), .agg (kgA x)]) (fun k x _ => rfl) (fun _ _ => rfl) (fun k => [.cells (wdA m0 ++ wdA m1 ++ wdA m2) 49, .cells [.bool true false] 4, .cells [.gsl .top 3 0 bs.length] 38, .row bs.length 5 (fun i => vzA (bs.getD i v0)) 27 (some 6), .cells (vzA m0) 27, .cells (vzA m0) 27, .row (bs.length + 1) 5 (fun i => vzA ((bs ++ [m0]).getD i v0)) 27 none, .cells (vzA m0) 27, .cells [.gsl .top 6 0 (bs.length + 1)] 38, .cells [.int .i64 false ((k : Nat) : Int)] 3, .cells [.bool (sS m0 bs k).1 (sS m0 bs k).2] 4]) rfl (fun _ => rfl) (fun k => dsS m0 bs k) (fun k => false)
      (fun k x r hx _ => ?_) hP8 hB8 fun k a10 Hr10 w10 hEn hP10 hB10 _ => ?_
    · have hk : k < bs.length + 1 := by have := (List.getElem?_eq_some_iff.1 hx).1; rwa [zsR_len, xsS_len] at this
      rw [zsR_at (by rw [xsS_len]; exact hk)] at hx
      obtain rfl := Option.some.inj hx
      obtain ⟨t, hg, ht0, _⟩ := hfx (k + 1) (by rw [xsS_len]; omega)
      rw [hg]
      have c1 : ((k : Int) != (k : Int)) = false := bne_self_eq_false _
      have c2 : ((fxK t).lo != (fxK t).l) = false := bne_self_eq_false _
      have c3 : ((fxK t).hi != (fxK t).l) = false := bne_self_eq_false _
      have c4 : ((fxK t).a != 0) = false := rfl
      have hinv := sS_inv m0 bs k
      have hsame := fun h => sS_same (m0 := m0) (bs := bs) k (by omega) h
      have hw1 := hwk k (by omega)
      rcases Nat.lt_or_ge k bs.length with hlt | hge
      · have c5 : decide ((k : Int) < (bs.length : Int)) = true := decide_eq_true (by omega)
        have c6 : decide (0 ≤ (k : Int) ∧ (k : Int) < (bs.length : Int)) = true := decide_eq_true (by omega)
        have c7 : decide (0 ≤ (((0 : Nat) : Int) + (k : Int)) ∧ (((0 : Nat) : Int) + (k : Int)) < (bs.length : Int)) = true := decide_eq_true (by omega)
        have hnx : sS m0 bs (k + 1) = (bif (sS m0 bs k).2 then (false, eqS m0 bs k) else (true, false)) := by rw [sS, if_pos hlt]
        have hds : dsS m0 bs k = [false, false, false, false] ++ (bif (sS m0 bs k).1 then [true] else (bif (sS m0 bs k).2 then (bif eqS m0 bs k then [true, true, true, false] else [true, true, false]) else [true, false])) := by unfold dsS; rw [if_pos hlt]
        rw [hnx, hds, ← hw1]
        rcases hp : sS m0 bs k with ⟨lf, st⟩
        rw [hp] at hinv hsame
        rcases st with _ | _
        · rcases lf with _ | _
          · exact sh_t3 x y z m0 m1 m2 A bs c k (fxK t) (allE_cons c1 (allE_cons c2 (allE_cons c3 (allE_cons c4 (allE_cons c5 (allE_cons rfl allE_nil)))))) r
          · exact sh_t4 x y z m0 m1 m2 A bs c k (fxK t) (allE_cons c1 (allE_cons c2 (allE_cons c3 (allE_cons c4 (allE_cons c5 allE_nil))))) r
        · obtain rfl : lf = false := by
            rcases lf with _ | _
            · rfl
            · cases hinv rfl
          rcases he : eqS m0 bs k with _ | _
          · have := sh_t2 x y z m0 m1 m2 A bs c k (fxK t) (allE_cons c1 (allE_cons c2 (allE_cons c3 (allE_cons c4 (allE_cons c5 (allE_cons rfl (allE_cons c6 (allE_cons c7 (allE_cons he allE_nil))))))))) r
            rw [show (false != (eqW (bs.getD (Int.toNat (((0 : Nat) : Int) + ((k : Nat) : Int))) v0) m0)) = false from he] at this
            exact this
          · have c8 : ((fxK t).l != 0) = false := by
              have := gR_last (m0 := m0) (bs := bs) (k := k) (by omega) fun j hj => by
                rcases Nat.lt_or_ge j k with h | h
                · exact hsame rfl j h
                · obtain rfl : j = k := by omega
                  exact eqS_same hlt he
              rw [hg] at this
              rw [this]; rfl
            have := sh_t1 x y z m0 m1 m2 A bs c k (fxK t) (allE_cons c1 (allE_cons c2 (allE_cons c3 (allE_cons c4 (allE_cons c5 (allE_cons rfl (allE_cons c6 (allE_cons c7 (allE_cons he (allE_cons c8 allE_nil)))))))))) r
            rw [show (false != (eqW (bs.getD (Int.toNat (((0 : Nat) : Int) + ((k : Nat) : Int))) v0) m0)) = true from he] at this
            exact this
      · obtain rfl : k = bs.length := by omega
        have c5 : decide ((bs.length : Int) < (bs.length : Int)) = false := decide_eq_false (by omega)
        have hnx : sS m0 bs (bs.length + 1) = sS m0 bs bs.length := by rw [sS, if_neg (Nat.lt_irrefl _)]
        have hds : dsS m0 bs bs.length = [false, false, false, false] ++ (bif (sS m0 bs bs.length).1 then [false] else (bif (sS m0 bs bs.length).2 then [false, true, false] else [false, false])) := by unfold dsS; rw [if_neg (Nat.lt_irrefl _)]
        rw [hnx, hds, ← hw1]
        rcases hp : sS m0 bs bs.length with ⟨lf, st⟩
        rw [hp] at hinv hsame
        rcases st with _ | _
        · rcases lf with _ | _
          · exact sh_n2 x y z m0 m1 m2 A bs c bs.length (fxK t) (allE_cons c1 (allE_cons c2 (allE_cons c3 (allE_cons c4 (allE_cons c5 (allE_cons rfl allE_nil)))))) r
          · exact sh_n3 x y z m0 m1 m2 A bs c bs.length (fxK t) (allE_cons c1 (allE_cons c2 (allE_cons c3 (allE_cons c4 (allE_cons c5 allE_nil))))) r
        · obtain rfl : lf = false := by
            rcases lf with _ | _
            · rfl
            · cases hinv rfl
          have c8 : ((fxK t).l != 0) = false := by
            have := gR_last (m0 := m0) (bs := bs) (k := bs.length) (Nat.le_refl _) fun j hj => by
              rcases Nat.lt_or_ge j bs.length with h | h
              · exact hsame rfl j h
              · obtain rfl : j = bs.length := by omega
                exact last_same m0 bs
            rw [hg] at this
            rw [this]; rfl
          exact sh_n1 x y z m0 m1 m2 A bs c bs.length (fxK t) (allE_cons c1 (allE_cons c2 (allE_cons c3 (allE_cons c4 (allE_cons c5 (allE_cons rfl (allE_cons c8 allE_nil))))))) r
    have hkm : k = bs.length + 1 := by
      rcases hEn with ⟨h1, _⟩ | ⟨_, _, h3, _⟩
      · rw [h1, zsR_len, xsS_len]
      · cases h3
    subst hkm
    exact ev_rest hE 60 (sh_z x y z m0 m1 m2 A bs c (bs.length + 1) (.bool (sS m0 bs (bs.length + 1)).1 (sS m0 bs (bs.length + 1)).2) (allE_cons (by rw [hwk bs.length (Nat.le_refl _)]; exact beq_self_eq_true _) allE_nil)) rfl (fun i r h h0 => by obtain ⟨_, rfl⟩ := rows1_inv h; show 0 < 4; decide) hP10 hB10
  rcases hl : (bits .or .u64 (bits .or .u64 x.l y.l) z.l != 0) with _ | _
  · refine ev_enter (E := (EJ (rows1 (rowB A bs)))) (fn := Try.f5) (c := (Try.f5.body.getD .skip)) Try.func5 (by kernel_rfl) (args := [.agg (vlA x ++ vlA y ++ vlA z), .agg (wdA m0 ++ wdA m1 ++ wdA m2), .rsl 0 (rowB A bs).n c]) (Args := [.agg (x.cells ++ y.cells ++ z.cells).toArray, .agg (wdC m0 ++ wdC m1 ++ wdC m2).toArray, .slice A bs.length c]) (show 3 ≤ Try.f5.ntmps by decide) hrel hRd (ds := [false, false, false, false, false, false, false, true, true, true, false, true, true, true, false, true, true, true, false]) (wr := allW) fun a0 hP hB => ?_
    refine ev_seqs hE 60 9 (sh_af x y z m0 m1 m2 A bs c (allE_cons (by rw [hN]; simp; omega) (allE_cons hl (allE_cons hl (allE_cons hl (allE_cons (neC_same _ _ _ _) (allE_cons (neC_same _ _ _ _) (allE_cons (neC_same _ _ _ _) (allE_cons (decide_eq_true rc1.1) (allE_cons (decide_eq_true rc1.2.1) (allE_cons (decide_eq_true rc1.2.2.1) (allE_cons (by rw [rc1.2.2.2]; rfl) (allE_cons (decide_eq_true rc2.1) (allE_cons (decide_eq_true rc2.2.1) (allE_cons (decide_eq_true rc2.2.2.1) (allE_cons (by rw [rc2.2.2.2]; rfl) (allE_cons (decide_eq_true rc3.1) (allE_cons (decide_eq_true rc3.2.1) (allE_cons (decide_eq_true rc3.2.2.1) (allE_cons (by rw [rc3.2.2.2]; rfl) allE_nil)))))))))))))))))))) hP hB fun a1 Hr1 w1 hP1 hB1 _ => ?_
    refine wp_parts (c := h9) (by kernel_rfl) ?_
    rw [e9]
    refine wp_parts (by kernel_rfl) ?_
    rw [e9']
    exact ev_codeS hE 60 [1, 2, 16] .normal (by kernel_rfl) (sh_bf x y z m0 m1 m2 A bs c) hP1 hB1 fun a2 Hr2 w2 hP2 hB2 => tail a2 Hr2 w2 hP2 hB2
  · have hz : lab3 x y z ≠ 0 := by
      rw [hlab]; intro e; rw [e] at hl; exact absurd hl (by decide)
    refine ev_enter (E := (EJ (rows1 (rowB A bs)))) (fn := Try.f5) (c := (Try.f5.body.getD .skip)) Try.func5 (by kernel_rfl) (args := [.agg (vlA x ++ vlA y ++ vlA z), .agg (wdA m0 ++ wdA m1 ++ wdA m2), .rsl 0 (rowB A bs).n c]) (Args := [.agg (x.cells ++ y.cells ++ z.cells).toArray, .agg (wdC m0 ++ wdC m1 ++ wdC m2).toArray, .slice A bs.length c]) (show 3 ≤ Try.f5.ntmps by decide) hrel hRd (ds := [false, true, true, true, false, false, false, true, true, true, false, true, true, true, false, true, true, true, false]) (wr := allW) fun a0 hP hB => ?_
    refine ev_seqs hE 60 9 (sh_at x y z m0 m1 m2 A bs c (allE_cons (by rw [hN]; simp; omega) (allE_cons hl (allE_cons hl (allE_cons hl (allE_cons (neC_lab _ _ _ _ hz) (allE_cons (neC_lab _ _ _ _ hz) (allE_cons (neC_lab _ _ _ _ hz) (allE_cons (decide_eq_true rc1.1) (allE_cons (decide_eq_true rc1.2.1) (allE_cons (decide_eq_true rc1.2.2.1) (allE_cons (by rw [rc1.2.2.2]; rfl) (allE_cons (decide_eq_true rc2.1) (allE_cons (decide_eq_true rc2.2.1) (allE_cons (decide_eq_true rc2.2.2.1) (allE_cons (by rw [rc2.2.2.2]; rfl) (allE_cons (decide_eq_true rc3.1) (allE_cons (decide_eq_true rc3.2.1) (allE_cons (decide_eq_true rc3.2.2.1) (allE_cons (by rw [rc3.2.2.2]; rfl) allE_nil)))))))))))))))))))) hP hB fun a1 Hr1 w1 hP1 hB1 _ => ?_
    refine wp_parts (c := h9) (by kernel_rfl) ?_
    rw [e9]
    refine wp_parts (by kernel_rfl) ?_
    rw [e9']
    exact ev_codeS hE 60 [1, 2, 16] .normal (by kernel_rfl) (sh_bt x y z m0 m1 m2 A bs c) hP1 hB1 fun a2 Hr2 w2 hP2 hB2 => tail a2 Hr2 w2 hP2 hB2
end Go.Proofs.Ytiglfbnicihpmaa
