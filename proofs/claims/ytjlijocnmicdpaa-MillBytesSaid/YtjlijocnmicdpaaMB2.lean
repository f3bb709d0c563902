/- Merged texts: MbD0 MbD MbE MbF MbP MbG. No condition. -/
import Derived.Test.YtjlijocnmicdpaaMB1
set_option linter.unusedVariables false
set_option linter.unusedSimpArgs false
set_option maxRecDepth 100000
namespace Go.Proofs.Ytjlijocnmicdpaa
open Go.RowKit

section
noncomputable abbrev tabMc (R : Rws) : List (Nat × CtmF) := [(33, ctmTold R 5), (20, ctmRTold 5), (48, ctmGrow 5)]
noncomputable abbrev EMc (R : Rws) : Env := ⟨Try.prog, eqsK Try.prog, R, lookF (tabMb R), lookCm (tabMc R), fun _ => false, genMb, fun f => Nat.beq f 34⟩
theorem tabMc_ok {R : Rws} (hR : RwOK R) : ∀ p ∈ tabMc R, GoodM Try.prog R p.1 p.2 := goodM_cons (q := (_, _)) (ctmTold_ok hR) (goodM_cons (q := (_, _)) ctmRTold_ok (goodM_cons (q := (_, _)) ctmGrow_ok goodM_nil))
theorem EMc_ok {R : Rws} (hR : RwOK R) : EnvOK (EMc R) := ⟨eqsK_ok, hR, fun f F h => lookF_ok (good_cons (p := (_, _)) (ctrLow_ok hR) (by simp)) f F h, fun f F h => lookCm_ok (tabMc_ok hR) f F h, rfl⟩
end

section
/-- Its bytes. -/
def bxN (x : XB) (i : Nat) : BitVec 8 := bif Nat.blt i 4 then BitVec.setWidth 8 (x.n >>> (24 - 8 * i)) else bif Nat.blt i 68 then byteN (x.h ((i - 4) / 8)) ((i - 4) % 8) else bif Nat.blt i 196 then byteN (x.m ((i - 68) / 8)) ((i - 68) % 8) else bif Nat.blt i 204 then byteN x.o0 (i - 196) else bif Nat.blt i 212 then byteN x.o1 (i - 204) else (bif x.last then 1#8 else 0#8)
def bxA (x : XB) (l : Bool) (i : Nat) : List AV := bif Nat.blt i 212 then [.bv .u8 (bxN x i)] else [.int .u8 l (bif x.last then 1 else 0)]
def bxV (x : XB) (i : Nat) : List Value := [.int .u8 ((bxN x i).toNat : Int)]
theorem bxA_vals (x : XB) (l : Bool) (i : Nat) (h : i < 213) : AV.vals? (((List.range 213).map (bxA x l)).getD i []) = some (bxV x i) := by
  rw [List.getD_eq_getElem?_getD, List.getElem?_map, List.getElem?_range h]
  show AV.vals? (bxA x l i) = _
  by_cases h2 : i < 212
  · unfold bxA
    rw [show Nat.blt i 212 = true from by rw [Nat.blt_eq]; exact h2]
    rfl
  · obtain rfl : i = 212 := by omega
    obtain ⟨n, h, m, o0, o1, b⟩ := x
    cases b <;> rfl
def xbV (x : XB) : List Value := [.int .u32 (x.n.toNat : Int), .int .u64 ((x.h 0).toNat : Int), .int .u64 ((x.h 1).toNat : Int), .int .u64 ((x.h 2).toNat : Int), .int .u64 ((x.h 3).toNat : Int), .int .u64 ((x.h 4).toNat : Int), .int .u64 ((x.h 5).toNat : Int), .int .u64 ((x.h 6).toNat : Int), .int .u64 ((x.h 7).toNat : Int), .int .u64 ((x.m 0).toNat : Int), .int .u64 ((x.m 1).toNat : Int), .int .u64 ((x.m 2).toNat : Int), .int .u64 ((x.m 3).toNat : Int), .int .u64 ((x.m 4).toNat : Int), .int .u64 ((x.m 5).toNat : Int), .int .u64 ((x.m 6).toNat : Int), .int .u64 ((x.m 7).toNat : Int), .int .u64 ((x.m 8).toNat : Int), .int .u64 ((x.m 9).toNat : Int), .int .u64 ((x.m 10).toNat : Int), .int .u64 ((x.m 11).toNat : Int), .int .u64 ((x.m 12).toNat : Int), .int .u64 ((x.m 13).toNat : Int), .int .u64 ((x.m 14).toNat : Int), .int .u64 ((x.m 15).toNat : Int), .int .u64 (x.o0.toNat : Int), .int .u64 (x.o1.toNat : Int), .bool x.last]
theorem rel_xbA {R : Rws} {ρ : Nums} (x : XB) : Rel R ρ (.agg (xbA x)) (.agg (xbV x).toArray) := .agg (RelL.of_vals rfl)
theorem mB_true (n : BitVec 32) (h m : Nat → BitVec 64) (o0 o1 : BitVec 64) : Is (evCall (EMc noRows) 60 14 [.agg (xbA ⟨n, h, m, o0, o1, true⟩)] ⟨[], [false, false, false, false], allW⟩ (mkK 20 213 1 5 ((List.range 213).map (bxA ⟨n, h, m, o0, o1, true⟩ false)))) := ev_eq [(true, true), (true, true), (true, true), (true, true), (true, true), (true, true), (true, true), (true, true), (true, true), (true, true), (true, true), (true, true), (true, true), (false, false), (false, false), (false, false), (false, false), (true, true), (true, true), (true, true), (true, true), (true, true), (true, true), (true, true), (true, true), (true, true), (true, true), (true, true), (true, true), (true, true), (true, true), (true, true)] (AV.gsl .top 20 0 213, some (213, 1, 5, (List.range 213).map (bxA ⟨n, h, m, o0, o1, true⟩ false))) (by kernel_rfl) (allE_cons rfl (allE_cons rfl (allE_cons rfl (allE_cons rfl (allE_cons rfl (allE_cons rfl (allE_cons rfl (allE_cons rfl (allE_cons rfl (allE_cons rfl (allE_cons rfl (allE_cons rfl (allE_cons rfl (allE_cons rfl (allE_cons rfl (allE_cons rfl (allE_cons rfl (allE_cons rfl (allE_cons rfl (allE_cons rfl (allE_cons rfl (allE_cons rfl (allE_cons rfl (allE_cons rfl (allE_cons rfl (allE_cons rfl (allE_cons rfl (allE_cons rfl (allE_cons rfl (allE_cons rfl (allE_cons rfl (allE_cons rfl (allE_nil)))))))))))))))))))))))))))))))))
theorem rB_true (n : BitVec 32) (h m : Nat → BitVec 64) (o0 o1 : BitVec 64) : Is (evCall (EMc noRows) 60 17 [.agg (xbA ⟨n, h, m, o0, o1, true⟩)] ⟨[], [true], allW⟩ (mkK 18 213 1 5 ((List.range 213).map (bxA ⟨n, h, m, o0, o1, true⟩ true)))) := ev_eq [(true, true), (true, true), (true, true), (true, true), (true, true), (true, true), (true, true), (true, true), (true, true), (true, true), (true, true), (true, true), (true, true), (true, true), (true, true), (true, true), (true, true), (true, true), (true, true), (true, true), (true, true), (true, true), (true, true), (true, true), (true, true), (true, true), (true, true)] (AV.gsl .top 18 0 213, some (213, 1, 5, (List.range 213).map (bxA ⟨n, h, m, o0, o1, true⟩ true))) (by kernel_rfl) (allE_cons rfl (allE_cons rfl (allE_cons rfl (allE_cons rfl (allE_cons rfl (allE_cons rfl (allE_cons rfl (allE_cons rfl (allE_cons rfl (allE_cons rfl (allE_cons rfl (allE_cons rfl (allE_cons rfl (allE_cons rfl (allE_cons rfl (allE_cons rfl (allE_cons rfl (allE_cons rfl (allE_cons rfl (allE_cons rfl (allE_cons rfl (allE_cons rfl (allE_cons rfl (allE_cons rfl (allE_cons rfl (allE_cons rfl (allE_cons rfl (allE_nil))))))))))))))))))))))))))))
theorem mB_false (n : BitVec 32) (h m : Nat → BitVec 64) (o0 o1 : BitVec 64) : Is (evCall (EMc noRows) 60 14 [.agg (xbA ⟨n, h, m, o0, o1, false⟩)] ⟨[], [false, false, false, false], allW⟩ (mkK 20 213 1 5 ((List.range 213).map (bxA ⟨n, h, m, o0, o1, false⟩ false)))) := ev_eq [(true, true), (true, true), (true, true), (true, true), (true, true), (true, true), (true, true), (true, true), (true, true), (true, true), (true, true), (true, true), (true, true), (false, false), (false, false), (false, false), (false, false), (true, true), (true, true), (true, true), (true, true), (true, true), (true, true), (true, true), (true, true), (true, true), (true, true), (true, true), (true, true), (true, true), (true, true), (true, true)] (AV.gsl .top 20 0 213, some (213, 1, 5, (List.range 213).map (bxA ⟨n, h, m, o0, o1, false⟩ false))) (by kernel_rfl) (allE_cons rfl (allE_cons rfl (allE_cons rfl (allE_cons rfl (allE_cons rfl (allE_cons rfl (allE_cons rfl (allE_cons rfl (allE_cons rfl (allE_cons rfl (allE_cons rfl (allE_cons rfl (allE_cons rfl (allE_cons rfl (allE_cons rfl (allE_cons rfl (allE_cons rfl (allE_cons rfl (allE_cons rfl (allE_cons rfl (allE_cons rfl (allE_cons rfl (allE_cons rfl (allE_cons rfl (allE_cons rfl (allE_cons rfl (allE_cons rfl (allE_cons rfl (allE_cons rfl (allE_cons rfl (allE_cons rfl (allE_cons rfl (allE_nil)))))))))))))))))))))))))))))))))
theorem rB_false (n : BitVec 32) (h m : Nat → BitVec 64) (o0 o1 : BitVec 64) : Is (evCall (EMc noRows) 60 17 [.agg (xbA ⟨n, h, m, o0, o1, false⟩)] ⟨[], [false], allW⟩ (mkK 18 213 1 5 ((List.range 213).map (bxA ⟨n, h, m, o0, o1, false⟩ true)))) := ev_eq [(true, true), (true, true), (true, true), (true, true), (true, true), (true, true), (true, true), (true, true), (true, true), (true, true), (true, true), (true, true), (true, true), (true, true), (true, true), (true, true), (true, true), (true, true), (true, true), (true, true), (true, true), (true, true), (true, true), (true, true), (false, false), (true, true), (true, true)] (AV.gsl .top 18 0 213, some (213, 1, 5, (List.range 213).map (bxA ⟨n, h, m, o0, o1, false⟩ true))) (by kernel_rfl) (allE_cons rfl (allE_cons rfl (allE_cons rfl (allE_cons rfl (allE_cons rfl (allE_cons rfl (allE_cons rfl (allE_cons rfl (allE_cons rfl (allE_cons rfl (allE_cons rfl (allE_cons rfl (allE_cons rfl (allE_cons rfl (allE_cons rfl (allE_cons rfl (allE_cons rfl (allE_cons rfl (allE_cons rfl (allE_cons rfl (allE_cons rfl (allE_cons rfl (allE_cons rfl (allE_cons rfl (allE_cons rfl (allE_cons rfl (allE_cons rfl (allE_nil))))))))))))))))))))))))))))
theorem mB_any (x : XB) (w : World) : Calls Try.prog 14 #[.agg (xbV x).toArray] w fun en w' => ∃ V, en = .returned V ∧ w'.ownsRow w.heap.size 5 1 V 213 ((List.range 213).flatMap (bxV x)) ∧ Below w.heap.size w w' := by
  obtain ⟨n, h, m, o0, o1, b⟩ := x
  cases b
  · exact mk_of_ev (EMc_ok rwOK_no) 60 (mB_false n h m o0 o1) (by decide) (bxV ⟨n, h, m, o0, o1, false⟩) (fun i hi => bxA_vals _ _ i hi) (.cons (rel_xbA _) .nil) w (rd_no _ _)
  · exact mk_of_ev (EMc_ok rwOK_no) 60 (mB_true n h m o0 o1) (by decide) (bxV ⟨n, h, m, o0, o1, true⟩) (fun i hi => bxA_vals _ _ i hi) (.cons (rel_xbA _) .nil) w (rd_no _ _)
theorem rB_any (x : XB) (w : World) : Calls Try.prog 17 #[.agg (xbV x).toArray] w fun en w' => ∃ V, en = .returned V ∧ w'.ownsRow w.heap.size 5 1 V 213 ((List.range 213).flatMap (bxV x)) ∧ Below w.heap.size w w' := by
  obtain ⟨n, h, m, o0, o1, b⟩ := x
  cases b
  · exact mk_of_ev (EMc_ok rwOK_no) 60 (rB_false n h m o0 o1) (by decide) (bxV ⟨n, h, m, o0, o1, false⟩) (fun i hi => bxA_vals _ _ i hi) (.cons (rel_xbA _) .nil) w (rd_no _ _)
  · exact mk_of_ev (EMc_ok rwOK_no) 60 (rB_true n h m o0 o1) (by decide) (bxV ⟨n, h, m, o0, o1, true⟩) (fun i hi => bxA_vals _ _ i hi) (.cons (rel_xbA _) .nil) w (rd_no _ _)
end

section
theorem allE_repA {l : List (Bool × Bool)} : ∀ n, AllE l → AllE (List.replicate n (true, true) ++ l)
  | 0, h => h
  | n + 1, h => allE_cons rfl (allE_repA n h)
def rowBN (A : Option Addr) (n : Nat) (f : Nat → BitVec 8) : RowI := ⟨A, n, 1, fun i => [.bv .u8 (f i.toNat)], fun i => [.int .u8 ((f i).toNat : Int)], []⟩
def low8 (f : Nat → BitVec 8) (o : Nat) : BitVec 64 := lowL ((List.range 8).map fun j => f (o + j))
def join4 (f : Nat → BitVec 8) : BitVec 32 := ((((BitVec.ofInt 32 0 ||| BitVec.setWidth 32 (f 0)) <<< 8 ||| BitVec.setWidth 32 (f 1)) <<< 8 ||| BitVec.setWidth 32 (f 2)) <<< 8 ||| BitVec.setWidth 32 (f 3))
/-- What bytes tell. -/
def readB (f : Nat → BitVec 8) : XB := ⟨join4 f, fun i => low8 f (4 + 8 * i), fun i => low8 f (68 + 8 * i), low8 f 196, low8 f 204, f 212 == BitVec.ofInt 8 1⟩
def zX : XB := ⟨0#32, fun _ => 0#64, fun _ => 0#64, 0#64, 0#64, false⟩
def bifX (b : Bool) (x y : XB) : XB := ⟨bif b then x.n else y.n, fun i => bif b then x.h i else y.h i, fun i => bif b then x.m i else y.m i, bif b then x.o0 else y.o0, bif b then x.o1 else y.o1, bif b then x.last else y.last⟩
def okB (f : Nat → BitVec 8) (m : Nat) : Bool := Nat.beq m 213 && !(Nat.blt (BitVec.toNat (BitVec.ofInt 8 1)) (BitVec.toNat (f 212)))
def rdX (f : Nat → BitVec 8) (m : Nat) : XB := bifX (okB f m) (readB f) zX
theorem bifX_true (x y : XB) : bifX true x y = x := rfl
theorem bifX_false (x y : XB) : bifX false x y = y := rfl
theorem mR_good (A : Option Addr) (f : Nat → BitVec 8) (c : Nat) (hx : (Nat.blt (BitVec.toNat (BitVec.ofInt 8 1)) (BitVec.toNat (f 212))) = false) : Is (evCall (EMc (rows1 (rowBN A 213 f))) 60 15 [.rsl 0 213 c] ⟨[], [false, false, true, true, true, true, false], allW⟩ (fun v _ => v = .tuple [.agg (xbA (readB f)), .int .i64 true 0])) := ev_eq ((false, false) :: ((true, true) :: ((Nat.blt (BitVec.toNat (BitVec.ofInt 8 1)) (BitVec.toNat (f 212)), false) :: (List.replicate 9 (true, true) ++ ((false, false) :: (List.replicate 109 (true, true) ++ [])))))) (.tuple [.agg (xbA (readB f)), .int .i64 true 0] : AV) (by kernel_rfl) (allE_cons rfl (allE_cons rfl (allE_cons hx (allE_repA 9 (allE_cons rfl (allE_repA 109 (allE_nil)))))))
theorem mR_bad (A : Option Addr) (f : Nat → BitVec 8) (c : Nat) (hx : (Nat.blt (BitVec.toNat (BitVec.ofInt 8 1)) (BitVec.toNat (f 212))) = true) : Is (evCall (EMc (rows1 (rowBN A 213 f))) 60 15 [.rsl 0 213 c] ⟨[], [false, true], allW⟩ (fun v _ => v = .tuple [.agg (AV.int .u32 true 0 :: List.replicate 26 (.int .u64 true 0) ++ [.bool true false]), .int .i64 true 350])) := ev_eq ((false, false) :: ((true, true) :: ((Nat.blt (BitVec.toNat (BitVec.ofInt 8 1)) (BitVec.toNat (f 212)), true) :: []))) (.tuple [.agg (AV.int .u32 true 0 :: List.replicate 26 (.int .u64 true 0) ++ [.bool true false]), .int .i64 true 350] : AV) (by kernel_rfl) (allE_cons rfl (allE_cons rfl (allE_cons hx (allE_nil))))
theorem mR_len (A : Option Addr) (xs : List (BitVec 8)) (c : Nat) (h : ((xs.length : Int) != 213) = true) : Is (evCall (EMc (rows1 (rowY A xs))) 60 15 [.rsl 0 xs.length c] ⟨[], [true], allW⟩ (fun v _ => v = .tuple [.agg (AV.int .u32 true 0 :: List.replicate 26 (.int .u64 true 0) ++ [.bool true false]), .int .i64 true 350])) := ev_eq [((xs.length : Int) != 213, true)] (.tuple [.agg (AV.int .u32 true 0 :: List.replicate 26 (.int .u64 true 0) ++ [.bool true false]), .int .i64 true 350] : AV) (by kernel_rfl) (allE_cons h allE_nil)
theorem mR_any (A : Option Addr) (xs : List (BitVec 8)) (c : Nat) (w : World) (hc : xs.length ≤ c) (hS : SlAt w A (u8Y (natY xs))) : Calls Try.prog 15 #[.slice A xs.length c] w fun e w' => e = .returned (.tuple #[.agg (xbV (rdX (fun i => xs.getD i 0#8) xs.length)).toArray, bif okB (fun i => xs.getD i 0#8) xs.length then .int .i64 0 else .int .i64 350]) ∧ Below w.heap.size w w' := by
  obtain ⟨hA, hd⟩ := rowY_rd hS
  have hR := rowY_rw hA
  have harg : RelL (EMc (rows1 (rowY A xs))).rows [] [.rsl 0 xs.length c] [.slice A xs.length c] := .cons (.rsl (r := rowY A xs) rfl hc) .nil
  rcases hl : ((xs.length : Int) != 213) with _ | _
  · have hn : xs.length = 213 := by have := bne_eq_false_iff_eq.1 hl; omega
    have hb : Nat.beq xs.length 213 = true := by rw [hn]; rfl
    have er : rowY A xs = rowBN A 213 (fun i => xs.getD i 0#8) := by rw [← hn]; rfl
    rcases hx : (Nat.blt (BitVec.toNat (BitVec.ofInt 8 1)) (BitVec.toNat (xs.getD 212 0#8))) with _ | _
    · have hok : okB (fun i => xs.getD i 0#8) xs.length = true := by unfold okB; rw [hb, hx]; rfl
      unfold rdX
      rw [hok, bifX_true]
      rw [er] at hR hd harg
      rw [hn] at harg ⊢
      exact ev_callsR (EMc_ok hR) 60 (mR_good A (fun i => xs.getD i 0#8) c hx) (by kernel_rfl) harg w hd
    · have hok : okB (fun i => xs.getD i 0#8) xs.length = false := by unfold okB; rw [hb, hx]; rfl
      unfold rdX
      rw [hok, bifX_false]
      rw [er] at hR hd harg
      rw [hn] at harg ⊢
      exact ev_callsR (EMc_ok hR) 60 (mR_bad A (fun i => xs.getD i 0#8) c hx) (by kernel_rfl) harg w hd
  · have hn : xs.length ≠ 213 := by intro e; rw [e] at hl; cases hl
    have hok : okB (fun i => xs.getD i 0#8) xs.length = false := by
      unfold okB
      rw [show Nat.beq xs.length 213 = false from by rw [Bool.eq_false_iff]; exact fun e => hn (Nat.eq_of_beq_eq_true e)]
      rfl
    unfold rdX
    rw [hok, bifX_false]
    exact ev_callsR (EMc_ok hR) 60 (mR_len A xs c hl) (by kernel_rfl) harg w hd
theorem rR_good (A : Option Addr) (f : Nat → BitVec 8) (c : Nat) (hx : (Nat.blt (BitVec.toNat (BitVec.ofInt 8 1)) (BitVec.toNat (f 212))) = false) : Is (evCall (EMc (rows1 (rowBN A 213 f))) 60 16 [.rsl 0 213 c] ⟨[], [false, false], allW⟩ (fun v _ => v = .tuple [.agg (xbA (readB f)), .bool true true])) := ev_eq ((false, false) :: ((true, true) :: ((Nat.blt (BitVec.toNat (BitVec.ofInt 8 1)) (BitVec.toNat (f 212)), false) :: (List.replicate 239 (true, true) ++ [])))) (.tuple [.agg (xbA (readB f)), .bool true true] : AV) (by kernel_rfl) (allE_cons rfl (allE_cons rfl (allE_cons hx (allE_repA 239 (allE_nil)))))
theorem rR_bad (A : Option Addr) (f : Nat → BitVec 8) (c : Nat) (hx : (Nat.blt (BitVec.toNat (BitVec.ofInt 8 1)) (BitVec.toNat (f 212))) = true) : Is (evCall (EMc (rows1 (rowBN A 213 f))) 60 16 [.rsl 0 213 c] ⟨[], [false, true], allW⟩ (fun v _ => v = .tuple [.agg (AV.int .u32 true 0 :: List.replicate 26 (.int .u64 true 0) ++ [.bool true false]), .bool true false])) := ev_eq ((false, false) :: ((true, true) :: ((Nat.blt (BitVec.toNat (BitVec.ofInt 8 1)) (BitVec.toNat (f 212)), true) :: []))) (.tuple [.agg (AV.int .u32 true 0 :: List.replicate 26 (.int .u64 true 0) ++ [.bool true false]), .bool true false] : AV) (by kernel_rfl) (allE_cons rfl (allE_cons rfl (allE_cons hx (allE_nil))))
theorem rR_len (A : Option Addr) (xs : List (BitVec 8)) (c : Nat) (h : ((xs.length : Int) != 213) = true) : Is (evCall (EMc (rows1 (rowY A xs))) 60 16 [.rsl 0 xs.length c] ⟨[], [true], allW⟩ (fun v _ => v = .tuple [.agg (AV.int .u32 true 0 :: List.replicate 26 (.int .u64 true 0) ++ [.bool true false]), .bool true false])) := ev_eq [((xs.length : Int) != 213, true)] (.tuple [.agg (AV.int .u32 true 0 :: List.replicate 26 (.int .u64 true 0) ++ [.bool true false]), .bool true false] : AV) (by kernel_rfl) (allE_cons h allE_nil)
theorem rR_any (A : Option Addr) (xs : List (BitVec 8)) (c : Nat) (w : World) (hc : xs.length ≤ c) (hS : SlAt w A (u8Y (natY xs))) : Calls Try.prog 16 #[.slice A xs.length c] w fun e w' => e = .returned (.tuple #[.agg (xbV (rdX (fun i => xs.getD i 0#8) xs.length)).toArray, bif okB (fun i => xs.getD i 0#8) xs.length then .bool true else .bool false]) ∧ Below w.heap.size w w' := by
  obtain ⟨hA, hd⟩ := rowY_rd hS
  have hR := rowY_rw hA
  have harg : RelL (EMc (rows1 (rowY A xs))).rows [] [.rsl 0 xs.length c] [.slice A xs.length c] := .cons (.rsl (r := rowY A xs) rfl hc) .nil
  rcases hl : ((xs.length : Int) != 213) with _ | _
  · have hn : xs.length = 213 := by have := bne_eq_false_iff_eq.1 hl; omega
    have hb : Nat.beq xs.length 213 = true := by rw [hn]; rfl
    have er : rowY A xs = rowBN A 213 (fun i => xs.getD i 0#8) := by rw [← hn]; rfl
    rcases hx : (Nat.blt (BitVec.toNat (BitVec.ofInt 8 1)) (BitVec.toNat (xs.getD 212 0#8))) with _ | _
    · have hok : okB (fun i => xs.getD i 0#8) xs.length = true := by unfold okB; rw [hb, hx]; rfl
      unfold rdX
      rw [hok, bifX_true]
      rw [er] at hR hd harg
      rw [hn] at harg ⊢
      exact ev_callsR (EMc_ok hR) 60 (rR_good A (fun i => xs.getD i 0#8) c hx) (by kernel_rfl) harg w hd
    · have hok : okB (fun i => xs.getD i 0#8) xs.length = false := by unfold okB; rw [hb, hx]; rfl
      unfold rdX
      rw [hok, bifX_false]
      rw [er] at hR hd harg
      rw [hn] at harg ⊢
      exact ev_callsR (EMc_ok hR) 60 (rR_bad A (fun i => xs.getD i 0#8) c hx) (by kernel_rfl) harg w hd
  · have hn : xs.length ≠ 213 := by intro e; rw [e] at hl; cases hl
    have hok : okB (fun i => xs.getD i 0#8) xs.length = false := by
      unfold okB
      rw [show Nat.beq xs.length 213 = false from by rw [Bool.eq_false_iff]; exact fun e => hn (Nat.eq_of_beq_eq_true e)]
      rfl
    unfold rdX
    rw [hok, bifX_false]
    exact ev_callsR (EMc_ok hR) 60 (rR_len A xs c hl) (by kernel_rfl) harg w hd
def f8 (G : Nat → List AV) : Nat → BitVec 8 := fun i => (byte8 (G i)).getD 0#8
theorem list8_get {G : Nat → List AV} {m i : Nat} (h : i < m) : (list8 G m).getD i 0#8 = f8 G i := by
  unfold list8 f8
  rw [List.getD_eq_getElem?_getD, List.getElem?_map, List.getElem?_range h]; rfl
/-- What is read is read off the first 213 bytes. -/
theorem okB_congr {f g : Nat → BitVec 8} {m : Nat} (h : ∀ i, i < m → f i = g i) : okB f m = okB g m := by
  unfold okB
  rcases hb : Nat.beq m 213 with _ | _
  · rfl
  · have := Nat.eq_of_beq_eq_true hb
    rw [h 212 (by omega)]
theorem low8_congr {f g : Nat → BitVec 8} {o : Nat} (h : ∀ i, i < 213 → f i = g i) (ho : o + 8 ≤ 213) : low8 f o = low8 g o := by
  unfold low8
  congr 1
  exact List.map_congr_left fun j hj => h _ (by have := List.mem_range.1 hj; omega)
theorem xbV_congr {x y : XB} (hn : x.n = y.n) (hh : ∀ i, i < 8 → x.h i = y.h i) (hm : ∀ i, i < 16 → x.m i = y.m i) (h0 : x.o0 = y.o0) (h1 : x.o1 = y.o1) (hl : x.last = y.last) : xbV x = xbV y := by
  unfold xbV
  rw [hn, h0, h1, hl, hh 0 (by decide), hh 1 (by decide), hh 2 (by decide), hh 3 (by decide), hh 4 (by decide), hh 5 (by decide), hh 6 (by decide), hh 7 (by decide), hm 0 (by decide), hm 1 (by decide), hm 2 (by decide), hm 3 (by decide), hm 4 (by decide), hm 5 (by decide), hm 6 (by decide), hm 7 (by decide), hm 8 (by decide), hm 9 (by decide), hm 10 (by decide), hm 11 (by decide), hm 12 (by decide), hm 13 (by decide), hm 14 (by decide), hm 15 (by decide)]
theorem rdX_congr {f g : Nat → BitVec 8} {m : Nat} (h : ∀ i, i < m → f i = g i) : xbV (rdX f m) = xbV (rdX g m) := by
  unfold rdX
  rw [okB_congr h]
  rcases hb : okB g m with _ | _
  · rfl
  · have hm : m = 213 := by
      unfold okB at hb
      rw [Bool.and_eq_true] at hb
      exact Nat.eq_of_beq_eq_true hb.1
    subst hm
    rw [bifX_true, bifX_true]
    refine xbV_congr ?_ (fun i hi => low8_congr h (by omega)) (fun i hi => low8_congr h (by omega)) (low8_congr h (by decide)) (low8_congr h (by decide)) ?_
    · show join4 f = join4 g
      unfold join4
      rw [h 0 (by decide), h 1 (by decide), h 2 (by decide), h 3 (by decide)]
    · show (f 212 == _) = (g 212 == _)
      rw [h 212 (by decide)]
def ctrmR (R : Rws) : CtrF
  | [x], H => match newsA R H 1 x with
    | some (m, G, cs) => bif longS x then some (.tuple [.agg (xbA (rdX (f8 G) m)), .int .i64 false (bif okB (f8 G) m then 0 else 350)], all8 G m :: cs) else none
    | none => none
  | _, _ => none
theorem ctrmR_ok {R : Rws} (hR : RwOK R) : Good Try.prog R 15 (ctrmR R) := by
  refine ⟨enters_of Try.func15 (by kernel_rfl) rfl, fun args H v cs hv hcs => ?_⟩
  unfold ctrmR at hv
  split at hv
  · rename_i H' x
    split at hv
    · rename_i m G cs' hn
      cases hd : longS x <;> simp only [hd, cond_true, cond_false] at hv
      · cases hv
      · cases hv
        have hb := hcs _ (List.mem_cons_self ..)
        refine ⟨_, rfl, fun Hr Args ha hB hA w hO => ?_⟩
        cases ha with | cons a1 ha =>
        cases ha
        obtain ⟨A, c, rfl, hs⟩ := list8_slAt hR hB hn (fun c hc => hcs c (List.mem_cons_of_mem _ hc)) hb a1
        have := mR_any A (list8 G m) c w (by rw [list8_len]; exact longS_cap hd a1) (hs w hO)
        rw [list8_len, okB_congr (f := fun i => (list8 G m).getD i 0#8) (g := f8 G) (fun i hi => list8_get hi), rdX_congr (f := fun i => (list8 G m).getD i 0#8) (g := f8 G) (fun i hi => list8_get hi)] at this
        refine this.mono fun e w' ⟨he, hb⟩ => ⟨he.trans ?_, hb⟩
        rcases okB (f8 G) m with _ | _ <;> rfl
    · cases hv
  · cases hv
def ctrrR (R : Rws) : CtrF
  | [x], H => match newsA R H 1 x with
    | some (m, G, cs) => bif longS x then some (.tuple [.agg (xbA (rdX (f8 G) m)), .bool false (okB (f8 G) m)], all8 G m :: cs) else none
    | none => none
  | _, _ => none
theorem ctrrR_ok {R : Rws} (hR : RwOK R) : Good Try.prog R 16 (ctrrR R) := by
  refine ⟨enters_of Try.func16 (by kernel_rfl) rfl, fun args H v cs hv hcs => ?_⟩
  unfold ctrrR at hv
  split at hv
  · rename_i H' x
    split at hv
    · rename_i m G cs' hn
      cases hd : longS x <;> simp only [hd, cond_true, cond_false] at hv
      · cases hv
      · cases hv
        have hb := hcs _ (List.mem_cons_self ..)
        refine ⟨_, rfl, fun Hr Args ha hB hA w hO => ?_⟩
        cases ha with | cons a1 ha =>
        cases ha
        obtain ⟨A, c, rfl, hs⟩ := list8_slAt hR hB hn (fun c hc => hcs c (List.mem_cons_of_mem _ hc)) hb a1
        have := rR_any A (list8 G m) c w (by rw [list8_len]; exact longS_cap hd a1) (hs w hO)
        rw [list8_len, okB_congr (f := fun i => (list8 G m).getD i 0#8) (g := f8 G) (fun i hi => list8_get hi), rdX_congr (f := fun i => (list8 G m).getD i 0#8) (g := f8 G) (fun i hi => list8_get hi)] at this
        refine this.mono fun e w' ⟨he, hb⟩ => ⟨he.trans ?_, hb⟩
        rcases okB (f8 G) m with _ | _ <;> rfl
    · cases hv
  · cases hv
end

section
/-- What is milled, read off its cells. -/
def xbO (cs : List AV) : XB := ⟨((cs.getD 0 .junk).asBv .u32).getD 0, fun i => (asB64 (cs.getD (1 + i) .junk)).getD 0#64, fun i => (asB64 (cs.getD (9 + i) .junk)).getD 0#64, (asB64 (cs.getD 25 .junk)).getD 0#64, (asB64 (cs.getD 26 .junk)).getD 0#64, match cs.getD 27 .junk with | .bool _ b => b | _ => false⟩
def xbB (cs : List AV) : Bool := Nat.beq cs.length 28 && ((cs.getD 0 .junk).asBv .u32).isSome && ((List.range 26).all fun i => (asB64 (cs.getD (1 + i) .junk)).isSome) && (match cs.getD 27 .junk with | .bool _ _ => true | _ => false)
theorem bv_val {k : IntKind} (hs : k.signed = false) {v : AV} (hv : (v.asBv k).isSome = true) : ∃ a, v.asBv k = some a ∧ v.val? = some (.int k (a.toNat : Int)) := by
  obtain ⟨a, ha⟩ := Option.isSome_iff_exists.1 hv
  refine ⟨a, ha, ?_⟩
  obtain ⟨V0, h0⟩ : ∃ V0, v.val? = some V0 := by
    unfold AV.asBv at ha
    split at ha
    · split at ha
      · rename_i e; subst e; exact ⟨_, by simp [AV.val?, hs]; rfl⟩
      · cases ha
    · exact ⟨_, rfl⟩
    · cases ha
  rw [h0, asBv_sound (R := noRows) (ρ := []) ha (Rel.of_val h0) hs]
theorem xbO_vals {cs : List AV} (hb : xbB cs = true) : AV.vals? cs = some (xbV (xbO cs)) := by
  unfold xbB at hb
  simp only [Bool.and_eq_true] at hb
  obtain ⟨⟨⟨hl, h0⟩, ha⟩, hz⟩ := hb
  have hl := Nat.eq_of_beq_eq_true hl
  match cs, hl with
  | [c0, c1, c2, c3, c4, c5, c6, c7, c8, c9, c10, c11, c12, c13, c14, c15, c16, c17, c18, c19, c20, c21, c22, c23, c24, c25, c26, c27], _ =>
    obtain ⟨a0, q0, e0⟩ := bv_val (k := .u32) rfl h0
    have hq := fun i (hi : i < 26) => bv_val (k := .u64) rfl (v := ([c0, c1, c2, c3, c4, c5, c6, c7, c8, c9, c10, c11, c12, c13, c14, c15, c16, c17, c18, c19, c20, c21, c22, c23, c24, c25, c26, c27] : List AV).getD (1 + i) .junk) (List.all_eq_true.1 ha i (List.mem_range.2 hi))
    obtain ⟨a1, q1, e1⟩ := hq 0 (by decide)
    obtain ⟨a2, q2, e2⟩ := hq 1 (by decide)
    obtain ⟨a3, q3, e3⟩ := hq 2 (by decide)
    obtain ⟨a4, q4, e4⟩ := hq 3 (by decide)
    obtain ⟨a5, q5, e5⟩ := hq 4 (by decide)
    obtain ⟨a6, q6, e6⟩ := hq 5 (by decide)
    obtain ⟨a7, q7, e7⟩ := hq 6 (by decide)
    obtain ⟨a8, q8, e8⟩ := hq 7 (by decide)
    obtain ⟨a9, q9, e9⟩ := hq 8 (by decide)
    obtain ⟨a10, q10, e10⟩ := hq 9 (by decide)
    obtain ⟨a11, q11, e11⟩ := hq 10 (by decide)
    obtain ⟨a12, q12, e12⟩ := hq 11 (by decide)
    obtain ⟨a13, q13, e13⟩ := hq 12 (by decide)
    obtain ⟨a14, q14, e14⟩ := hq 13 (by decide)
    obtain ⟨a15, q15, e15⟩ := hq 14 (by decide)
    obtain ⟨a16, q16, e16⟩ := hq 15 (by decide)
    obtain ⟨a17, q17, e17⟩ := hq 16 (by decide)
    obtain ⟨a18, q18, e18⟩ := hq 17 (by decide)
    obtain ⟨a19, q19, e19⟩ := hq 18 (by decide)
    obtain ⟨a20, q20, e20⟩ := hq 19 (by decide)
    obtain ⟨a21, q21, e21⟩ := hq 20 (by decide)
    obtain ⟨a22, q22, e22⟩ := hq 21 (by decide)
    obtain ⟨a23, q23, e23⟩ := hq 22 (by decide)
    obtain ⟨a24, q24, e24⟩ := hq 23 (by decide)
    obtain ⟨a25, q25, e25⟩ := hq 24 (by decide)
    obtain ⟨a26, q26, e26⟩ := hq 25 (by decide)
    have hc : ∃ l b, c27 = .bool l b := by
      simp only [List.getD_cons_succ, List.getD_cons_zero] at hz
      split at hz
      · exact ⟨_, _, rfl⟩
      · cases hz
    obtain ⟨l, b, rfl⟩ := hc
    have hx : xbV (xbO [c0, c1, c2, c3, c4, c5, c6, c7, c8, c9, c10, c11, c12, c13, c14, c15, c16, c17, c18, c19, c20, c21, c22, c23, c24, c25, c26, .bool l b]) = [.int .u32 (a0.toNat : Int), .int .u64 (a1.toNat : Int), .int .u64 (a2.toNat : Int), .int .u64 (a3.toNat : Int), .int .u64 (a4.toNat : Int), .int .u64 (a5.toNat : Int), .int .u64 (a6.toNat : Int), .int .u64 (a7.toNat : Int), .int .u64 (a8.toNat : Int), .int .u64 (a9.toNat : Int), .int .u64 (a10.toNat : Int), .int .u64 (a11.toNat : Int), .int .u64 (a12.toNat : Int), .int .u64 (a13.toNat : Int), .int .u64 (a14.toNat : Int), .int .u64 (a15.toNat : Int), .int .u64 (a16.toNat : Int), .int .u64 (a17.toNat : Int), .int .u64 (a18.toNat : Int), .int .u64 (a19.toNat : Int), .int .u64 (a20.toNat : Int), .int .u64 (a21.toNat : Int), .int .u64 (a22.toNat : Int), .int .u64 (a23.toNat : Int), .int .u64 (a24.toNat : Int), .int .u64 (a25.toNat : Int), .int .u64 (a26.toNat : Int), .bool b] := by
      show [Value.int .u32 (((AV.asBv .u32 c0).getD 0).toNat : Int), Value.int .u64 (((AV.asBv .u64 c1).getD 0#64).toNat : Int), Value.int .u64 (((AV.asBv .u64 c2).getD 0#64).toNat : Int), Value.int .u64 (((AV.asBv .u64 c3).getD 0#64).toNat : Int), Value.int .u64 (((AV.asBv .u64 c4).getD 0#64).toNat : Int), Value.int .u64 (((AV.asBv .u64 c5).getD 0#64).toNat : Int), Value.int .u64 (((AV.asBv .u64 c6).getD 0#64).toNat : Int), Value.int .u64 (((AV.asBv .u64 c7).getD 0#64).toNat : Int), Value.int .u64 (((AV.asBv .u64 c8).getD 0#64).toNat : Int), Value.int .u64 (((AV.asBv .u64 c9).getD 0#64).toNat : Int), Value.int .u64 (((AV.asBv .u64 c10).getD 0#64).toNat : Int), Value.int .u64 (((AV.asBv .u64 c11).getD 0#64).toNat : Int), Value.int .u64 (((AV.asBv .u64 c12).getD 0#64).toNat : Int), Value.int .u64 (((AV.asBv .u64 c13).getD 0#64).toNat : Int), Value.int .u64 (((AV.asBv .u64 c14).getD 0#64).toNat : Int), Value.int .u64 (((AV.asBv .u64 c15).getD 0#64).toNat : Int), Value.int .u64 (((AV.asBv .u64 c16).getD 0#64).toNat : Int), Value.int .u64 (((AV.asBv .u64 c17).getD 0#64).toNat : Int), Value.int .u64 (((AV.asBv .u64 c18).getD 0#64).toNat : Int), Value.int .u64 (((AV.asBv .u64 c19).getD 0#64).toNat : Int), Value.int .u64 (((AV.asBv .u64 c20).getD 0#64).toNat : Int), Value.int .u64 (((AV.asBv .u64 c21).getD 0#64).toNat : Int), Value.int .u64 (((AV.asBv .u64 c22).getD 0#64).toNat : Int), Value.int .u64 (((AV.asBv .u64 c23).getD 0#64).toNat : Int), Value.int .u64 (((AV.asBv .u64 c24).getD 0#64).toNat : Int), Value.int .u64 (((AV.asBv .u64 c25).getD 0#64).toNat : Int), Value.int .u64 (((AV.asBv .u64 c26).getD 0#64).toNat : Int), .bool b] = _
      have g0 : AV.asBv .u32 c0 = some a0 := q0
      have g1 : AV.asBv .u64 c1 = some a1 := q1
      have g2 : AV.asBv .u64 c2 = some a2 := q2
      have g3 : AV.asBv .u64 c3 = some a3 := q3
      have g4 : AV.asBv .u64 c4 = some a4 := q4
      have g5 : AV.asBv .u64 c5 = some a5 := q5
      have g6 : AV.asBv .u64 c6 = some a6 := q6
      have g7 : AV.asBv .u64 c7 = some a7 := q7
      have g8 : AV.asBv .u64 c8 = some a8 := q8
      have g9 : AV.asBv .u64 c9 = some a9 := q9
      have g10 : AV.asBv .u64 c10 = some a10 := q10
      have g11 : AV.asBv .u64 c11 = some a11 := q11
      have g12 : AV.asBv .u64 c12 = some a12 := q12
      have g13 : AV.asBv .u64 c13 = some a13 := q13
      have g14 : AV.asBv .u64 c14 = some a14 := q14
      have g15 : AV.asBv .u64 c15 = some a15 := q15
      have g16 : AV.asBv .u64 c16 = some a16 := q16
      have g17 : AV.asBv .u64 c17 = some a17 := q17
      have g18 : AV.asBv .u64 c18 = some a18 := q18
      have g19 : AV.asBv .u64 c19 = some a19 := q19
      have g20 : AV.asBv .u64 c20 = some a20 := q20
      have g21 : AV.asBv .u64 c21 = some a21 := q21
      have g22 : AV.asBv .u64 c22 = some a22 := q22
      have g23 : AV.asBv .u64 c23 = some a23 := q23
      have g24 : AV.asBv .u64 c24 = some a24 := q24
      have g25 : AV.asBv .u64 c25 = some a25 := q25
      have g26 : AV.asBv .u64 c26 = some a26 := q26
      rw [g0, g1, g2, g3, g4, g5, g6, g7, g8, g9, g10, g11, g12, g13, g14, g15, g16, g17, g18, g19, g20, g21, g22, g23, g24, g25, g26]
      rfl
    rw [hx]
    have g0 : c0.val? = some (.int .u32 (a0.toNat : Int)) := e0
    have g1 : c1.val? = some (.int .u64 (a1.toNat : Int)) := e1
    have g2 : c2.val? = some (.int .u64 (a2.toNat : Int)) := e2
    have g3 : c3.val? = some (.int .u64 (a3.toNat : Int)) := e3
    have g4 : c4.val? = some (.int .u64 (a4.toNat : Int)) := e4
    have g5 : c5.val? = some (.int .u64 (a5.toNat : Int)) := e5
    have g6 : c6.val? = some (.int .u64 (a6.toNat : Int)) := e6
    have g7 : c7.val? = some (.int .u64 (a7.toNat : Int)) := e7
    have g8 : c8.val? = some (.int .u64 (a8.toNat : Int)) := e8
    have g9 : c9.val? = some (.int .u64 (a9.toNat : Int)) := e9
    have g10 : c10.val? = some (.int .u64 (a10.toNat : Int)) := e10
    have g11 : c11.val? = some (.int .u64 (a11.toNat : Int)) := e11
    have g12 : c12.val? = some (.int .u64 (a12.toNat : Int)) := e12
    have g13 : c13.val? = some (.int .u64 (a13.toNat : Int)) := e13
    have g14 : c14.val? = some (.int .u64 (a14.toNat : Int)) := e14
    have g15 : c15.val? = some (.int .u64 (a15.toNat : Int)) := e15
    have g16 : c16.val? = some (.int .u64 (a16.toNat : Int)) := e16
    have g17 : c17.val? = some (.int .u64 (a17.toNat : Int)) := e17
    have g18 : c18.val? = some (.int .u64 (a18.toNat : Int)) := e18
    have g19 : c19.val? = some (.int .u64 (a19.toNat : Int)) := e19
    have g20 : c20.val? = some (.int .u64 (a20.toNat : Int)) := e20
    have g21 : c21.val? = some (.int .u64 (a21.toNat : Int)) := e21
    have g22 : c22.val? = some (.int .u64 (a22.toNat : Int)) := e22
    have g23 : c23.val? = some (.int .u64 (a23.toNat : Int)) := e23
    have g24 : c24.val? = some (.int .u64 (a24.toNat : Int)) := e24
    have g25 : c25.val? = some (.int .u64 (a25.toNat : Int)) := e25
    have g26 : c26.val? = some (.int .u64 (a26.toNat : Int)) := e26
    simp only [AV.vals?, g0, g1, g2, g3, g4, g5, g6, g7, g8, g9, g10, g11, g12, g13, g14, g15, g16, g17, g18, g19, g20, g21, g22, g23, g24, g25, g26]
    rfl
def bxG (x : XB) (i : Nat) : List AV := [.bv .u8 (bxN x i)]
def ctmBy (e : TypeId) : CtmF
  | [.agg cs], H, _ => bif xbB cs then some (.gsl .top H.length 0 213, H ++ [.row 213 1 (bxG (xbO cs)) e none], []) else none
  | _, _, _ => none
theorem ctmBy_ok {R : Rws} {f : FuncId} (hen : Enters Try.prog f) (h : ∀ (x : XB) (w : World), Calls Try.prog f #[.agg (xbV x).toArray] w fun en w' => ∃ V, en = .returned V ∧ w'.ownsRow w.heap.size 5 1 V 213 ((List.range 213).flatMap (bxV x)) ∧ Below w.heap.size w w') : GoodM Try.prog R f (ctmBy 5) := by
  refine ⟨hen, fun args H wr v H' cs hv hcs Hr w Args ha hB hA hO => ?_⟩
  unfold ctmBy at hv
  split at hv
  · rename_i H'' wr' cs'
    cases hd : xbB cs' <;> simp only [hd, cond_true, cond_false] at hv
    · cases hv
    · cases hv
      cases ha with | cons a1 ha =>
      cases ha
      cases a1 with | agg a1 =>
      have e := a1.vals (xbO_vals hd)
      subst e
      exact ctm_of_mk (by decide) (h (xbO cs') w) (fun i _ => rfl) (fun i _ v hv => by
        unfold bxV at hv
        rw [List.mem_singleton.1 hv]; rfl) (fun i _ => rfl) hB hA hO
  · cases hv
noncomputable abbrev tabLc (R : Rws) : List (Nat × CtrF) := [(6, ctr0 (.bool true true)), (15, ctrmR R), (16, ctrrR R)]
noncomputable abbrev tabLm (R : Rws) : List (Nat × CtmF) := [(14, ctmBy 5), (17, ctmBy 5), (33, ctmTold R 5), (20, ctmRTold 5)]
noncomputable abbrev genLb : Nat → Bool := fun f => Nat.beq f 14 || Nat.beq f 17 || Nat.beq f 19 || Nat.beq f 20
noncomputable abbrev ELb (R : Rws) : Env := ⟨Try.prog, eqsK Try.prog, R, lookF (tabLc R), lookCm (tabLm R), fun _ => false, genLb, fun _ => false⟩
theorem ELb_ok {R : Rws} (hR : RwOK R) (hW : ∀ w, Calls Try.prog 6 #[] w fun e w' => e = .returned (.bool true) ∧ Below w.heap.size w w') : EnvOK (ELb R) := ⟨eqsK_ok, hR, fun f F h => lookF_ok (T := tabLc R) (good_cons (p := (_, _)) (ctr0_ok (enters_of Try.func6 (by kernel_rfl) rfl) rfl hW) (good_cons (p := (_, _)) (ctrmR_ok hR) (good_cons (p := (_, _)) (ctrrR_ok hR) (by simp)))) f F h,
  fun f F h => lookCm_ok (T := tabLm R) (goodM_cons (q := (_, _)) (ctmBy_ok (enters_of Try.func14 (by kernel_rfl) rfl) mB_any) (goodM_cons (q := (_, _)) (ctmBy_ok (enters_of Try.func17 (by kernel_rfl) rfl) rB_any) (goodM_cons (q := (_, _)) (ctmTold_ok hR) (goodM_cons (q := (_, _)) ctmRTold_ok goodM_nil)))) f F h, rfl⟩
end

section
theorem joinB_lsb (v : BitVec 64) (b : BitVec 8) (i : Nat) (h : i < 64) : (joinB v b).getLsbD i = if i < 8 then b.getLsbD i else v.getLsbD (i - 8) := by
  unfold joinB
  rw [BitVec.getLsbD_or, BitVec.getLsbD_shiftLeft, BitVec.getLsbD_setWidth]
  by_cases h8 : i < 8
  · simp [h8, h]
  · simp [h8, h, BitVec.getLsbD_of_ge b i (by omega)]
theorem low_lsb (b : Nat → BitVec 8) (i : Nat) (h : i < 64) : (lowL ((List.range 8).map b)).getLsbD i = (b (i / 8)).getLsbD (i % 8) := by
  have e : lowL ((List.range 8).map b) = joinB (joinB (joinB (joinB (joinB (joinB (joinB (joinB 0#64 (b 7)) (b 6)) (b 5)) (b 4)) (b 3)) (b 2)) (b 1)) (b 0) := rfl
  rw [e]
  obtain ⟨q, r, hq, hr, rfl⟩ : ∃ q r, q < 8 ∧ r < 8 ∧ i = 8 * q + r := ⟨i / 8, i % 8, by omega, by omega, by omega⟩
  rw [show (8 * q + r) / 8 = q by omega, show (8 * q + r) % 8 = r by omega]
  match q, hq with
  | 0, _ => rw [joinB_lsb _ _ (8 * 0 + r) (by omega), if_pos (show 8 * 0 + r < 8 by omega), show 8 * 0 + r = r by omega]
  | 1, _ => rw [joinB_lsb _ _ (8 * 1 + r) (by omega), if_neg (show ¬ 8 * 1 + r < 8 by omega), show 8 * 1 + r - 8 = 8 * 0 + r by omega, joinB_lsb _ _ (8 * 0 + r) (by omega), if_pos (show 8 * 0 + r < 8 by omega), show 8 * 0 + r = r by omega]
  | 2, _ => rw [joinB_lsb _ _ (8 * 2 + r) (by omega), if_neg (show ¬ 8 * 2 + r < 8 by omega), show 8 * 2 + r - 8 = 8 * 1 + r by omega, joinB_lsb _ _ (8 * 1 + r) (by omega), if_neg (show ¬ 8 * 1 + r < 8 by omega), show 8 * 1 + r - 8 = 8 * 0 + r by omega, joinB_lsb _ _ (8 * 0 + r) (by omega), if_pos (show 8 * 0 + r < 8 by omega), show 8 * 0 + r = r by omega]
  | 3, _ => rw [joinB_lsb _ _ (8 * 3 + r) (by omega), if_neg (show ¬ 8 * 3 + r < 8 by omega), show 8 * 3 + r - 8 = 8 * 2 + r by omega, joinB_lsb _ _ (8 * 2 + r) (by omega), if_neg (show ¬ 8 * 2 + r < 8 by omega), show 8 * 2 + r - 8 = 8 * 1 + r by omega, joinB_lsb _ _ (8 * 1 + r) (by omega), if_neg (show ¬ 8 * 1 + r < 8 by omega), show 8 * 1 + r - 8 = 8 * 0 + r by omega, joinB_lsb _ _ (8 * 0 + r) (by omega), if_pos (show 8 * 0 + r < 8 by omega), show 8 * 0 + r = r by omega]
  | 4, _ => rw [joinB_lsb _ _ (8 * 4 + r) (by omega), if_neg (show ¬ 8 * 4 + r < 8 by omega), show 8 * 4 + r - 8 = 8 * 3 + r by omega, joinB_lsb _ _ (8 * 3 + r) (by omega), if_neg (show ¬ 8 * 3 + r < 8 by omega), show 8 * 3 + r - 8 = 8 * 2 + r by omega, joinB_lsb _ _ (8 * 2 + r) (by omega), if_neg (show ¬ 8 * 2 + r < 8 by omega), show 8 * 2 + r - 8 = 8 * 1 + r by omega, joinB_lsb _ _ (8 * 1 + r) (by omega), if_neg (show ¬ 8 * 1 + r < 8 by omega), show 8 * 1 + r - 8 = 8 * 0 + r by omega, joinB_lsb _ _ (8 * 0 + r) (by omega), if_pos (show 8 * 0 + r < 8 by omega), show 8 * 0 + r = r by omega]
  | 5, _ => rw [joinB_lsb _ _ (8 * 5 + r) (by omega), if_neg (show ¬ 8 * 5 + r < 8 by omega), show 8 * 5 + r - 8 = 8 * 4 + r by omega, joinB_lsb _ _ (8 * 4 + r) (by omega), if_neg (show ¬ 8 * 4 + r < 8 by omega), show 8 * 4 + r - 8 = 8 * 3 + r by omega, joinB_lsb _ _ (8 * 3 + r) (by omega), if_neg (show ¬ 8 * 3 + r < 8 by omega), show 8 * 3 + r - 8 = 8 * 2 + r by omega, joinB_lsb _ _ (8 * 2 + r) (by omega), if_neg (show ¬ 8 * 2 + r < 8 by omega), show 8 * 2 + r - 8 = 8 * 1 + r by omega, joinB_lsb _ _ (8 * 1 + r) (by omega), if_neg (show ¬ 8 * 1 + r < 8 by omega), show 8 * 1 + r - 8 = 8 * 0 + r by omega, joinB_lsb _ _ (8 * 0 + r) (by omega), if_pos (show 8 * 0 + r < 8 by omega), show 8 * 0 + r = r by omega]
  | 6, _ => rw [joinB_lsb _ _ (8 * 6 + r) (by omega), if_neg (show ¬ 8 * 6 + r < 8 by omega), show 8 * 6 + r - 8 = 8 * 5 + r by omega, joinB_lsb _ _ (8 * 5 + r) (by omega), if_neg (show ¬ 8 * 5 + r < 8 by omega), show 8 * 5 + r - 8 = 8 * 4 + r by omega, joinB_lsb _ _ (8 * 4 + r) (by omega), if_neg (show ¬ 8 * 4 + r < 8 by omega), show 8 * 4 + r - 8 = 8 * 3 + r by omega, joinB_lsb _ _ (8 * 3 + r) (by omega), if_neg (show ¬ 8 * 3 + r < 8 by omega), show 8 * 3 + r - 8 = 8 * 2 + r by omega, joinB_lsb _ _ (8 * 2 + r) (by omega), if_neg (show ¬ 8 * 2 + r < 8 by omega), show 8 * 2 + r - 8 = 8 * 1 + r by omega, joinB_lsb _ _ (8 * 1 + r) (by omega), if_neg (show ¬ 8 * 1 + r < 8 by omega), show 8 * 1 + r - 8 = 8 * 0 + r by omega, joinB_lsb _ _ (8 * 0 + r) (by omega), if_pos (show 8 * 0 + r < 8 by omega), show 8 * 0 + r = r by omega]
  | 7, _ => rw [joinB_lsb _ _ (8 * 7 + r) (by omega), if_neg (show ¬ 8 * 7 + r < 8 by omega), show 8 * 7 + r - 8 = 8 * 6 + r by omega, joinB_lsb _ _ (8 * 6 + r) (by omega), if_neg (show ¬ 8 * 6 + r < 8 by omega), show 8 * 6 + r - 8 = 8 * 5 + r by omega, joinB_lsb _ _ (8 * 5 + r) (by omega), if_neg (show ¬ 8 * 5 + r < 8 by omega), show 8 * 5 + r - 8 = 8 * 4 + r by omega, joinB_lsb _ _ (8 * 4 + r) (by omega), if_neg (show ¬ 8 * 4 + r < 8 by omega), show 8 * 4 + r - 8 = 8 * 3 + r by omega, joinB_lsb _ _ (8 * 3 + r) (by omega), if_neg (show ¬ 8 * 3 + r < 8 by omega), show 8 * 3 + r - 8 = 8 * 2 + r by omega, joinB_lsb _ _ (8 * 2 + r) (by omega), if_neg (show ¬ 8 * 2 + r < 8 by omega), show 8 * 2 + r - 8 = 8 * 1 + r by omega, joinB_lsb _ _ (8 * 1 + r) (by omega), if_neg (show ¬ 8 * 1 + r < 8 by omega), show 8 * 1 + r - 8 = 8 * 0 + r by omega, joinB_lsb _ _ (8 * 0 + r) (by omega), if_pos (show 8 * 0 + r < 8 by omega), show 8 * 0 + r = r by omega]
  | q + 8, hq => exact absurd hq (by omega)
theorem byteN_lsb (v : BitVec 64) (j i : Nat) (h : i < 8) : (byteN v j).getLsbD i = v.getLsbD (8 * j + i) := by
  unfold byteN
  rw [BitVec.getLsbD_setWidth, BitVec.getLsbD_ushiftRight]
  simp [h]
/-- A number is what its bytes tell. -/
theorem low_byteN (v : BitVec 64) : lowL ((List.range 8).map fun j => byteN v j) = v := by
  refine BitVec.eq_of_getLsbD_eq fun i hi => ?_
  rw [low_lsb (fun j => byteN v j) i hi, byteN_lsb _ _ _ (by omega)]
  congr 1
  omega
theorem byteN_low (b : Nat → BitVec 8) (j : Nat) (h : j < 8) : byteN (lowL ((List.range 8).map b)) j = b j := by
  refine BitVec.eq_of_getLsbD_eq fun i hi => ?_
  rw [byteN_lsb _ _ _ hi, low_lsb b _ (by omega), show (8 * j + i) / 8 = j by omega, show (8 * j + i) % 8 = i by omega]
theorem join4_lsb (f : Nat → BitVec 8) (i : Nat) (h : i < 32) : (join4 f).getLsbD i = (f (3 - i / 8)).getLsbD (i % 8) := by
  obtain ⟨q, r, hq, hr, rfl⟩ : ∃ q r, q < 4 ∧ r < 8 ∧ i = 8 * q + r := ⟨i / 8, i % 8, by omega, by omega, by omega⟩
  rw [show (8 * q + r) / 8 = q by omega, show (8 * q + r) % 8 = r by omega]
  unfold join4
  simp only [BitVec.getLsbD_or, BitVec.getLsbD_shiftLeft, BitVec.getLsbD_setWidth]
  have hge : ∀ (b : BitVec 8) k, 8 ≤ k → b.getLsbD k = false := fun b k hk => BitVec.getLsbD_of_ge b k hk
  match q, hq with
  | 0, _ => simp [hr, show r < 32 by omega]
  | 1, _ => simp [hge _ (8 + r) (by omega), show 8 + r < 32 by omega, show ¬ 8 + r < 8 by omega, show 8 + r - 8 = r by omega, hr, show r < 32 by omega]
  | 2, _ => simp [hge _ (16 + r) (by omega), hge _ (8 + r) (by omega), show 16 + r < 32 by omega, show ¬ 16 + r < 8 by omega, show 16 + r - 8 = 8 + r by omega, show 8 + r < 32 by omega, show ¬ 8 + r < 8 by omega, show 8 + r - 8 = r by omega, hr, show r < 32 by omega]
  | 3, _ => simp [hge _ (24 + r) (by omega), hge _ (16 + r) (by omega), hge _ (8 + r) (by omega), show 24 + r < 32 by omega, show ¬ 24 + r < 8 by omega, show 24 + r - 8 = 16 + r by omega, show 16 + r < 32 by omega, show ¬ 16 + r < 8 by omega, show 16 + r - 8 = 8 + r by omega, show 8 + r < 32 by omega, show ¬ 8 + r < 8 by omega, show 8 + r - 8 = r by omega, hr, show r < 32 by omega]
  | q + 4, hq => exact absurd hq (by omega)
theorem sh4_lsb (v : BitVec 32) (j i : Nat) (h : i < 8) : (BitVec.setWidth 8 (v >>> j)).getLsbD i = v.getLsbD (j + i) := by
  rw [BitVec.getLsbD_setWidth, BitVec.getLsbD_ushiftRight]
  simp [h]
/-- What is read of its bytes is it. -/
theorem read_bytes25 (x : XB) : (readB (bxN x)).n = x.n ∧ (∀ i, i < 8 → (readB (bxN x)).h i = x.h i) ∧ (∀ i, i < 16 → (readB (bxN x)).m i = x.m i) ∧ (readB (bxN x)).o0 = x.o0 ∧ (readB (bxN x)).o1 = x.o1 ∧ (readB (bxN x)).last = x.last := by
  have blt : ∀ a b : Nat, a < b → Nat.blt a b = true := fun a b h => by rw [Nat.blt_eq]; exact h
  have bge : ∀ a b : Nat, b ≤ a → Nat.blt a b = false := fun a b h => by rw [Bool.eq_false_iff]; intro e; rw [Nat.blt_eq] at e; omega
  refine ⟨?_, fun i hi => ?_, fun i hi => ?_, ?_, ?_, ?_⟩
  · show join4 (bxN x) = x.n
    refine BitVec.eq_of_getLsbD_eq fun i hi => ?_
    rw [join4_lsb _ i hi]
    unfold bxN
    rw [blt (3 - i / 8) 4 (by omega), cond_true, sh4_lsb _ _ _ (by omega)]
    congr 1
    omega
  · show low8 (bxN x) (4 + 8 * i) = x.h i
    rw [← low_byteN (x.h i)]
    unfold low8
    refine congrArg lowL (List.map_congr_left fun j hj => ?_)
    have hj := List.mem_range.1 hj
    unfold bxN
    rw [bge _ 4 (by omega), blt _ 68 (by omega), cond_false, cond_true, show (4 + 8 * i + j - 4) / 8 = i by omega, show (4 + 8 * i + j - 4) % 8 = j by omega]
  · show low8 (bxN x) (68 + 8 * i) = x.m i
    rw [← low_byteN (x.m i)]
    unfold low8
    refine congrArg lowL (List.map_congr_left fun j hj => ?_)
    have hj := List.mem_range.1 hj
    unfold bxN
    rw [bge _ 4 (by omega), bge _ 68 (by omega), blt _ 196 (by omega), cond_false, cond_false, cond_true, show (68 + 8 * i + j - 68) / 8 = i by omega, show (68 + 8 * i + j - 68) % 8 = j by omega]
  · show low8 (bxN x) 196 = x.o0
    rw [← low_byteN x.o0]
    unfold low8
    refine congrArg lowL (List.map_congr_left fun j hj => ?_)
    have hj := List.mem_range.1 hj
    unfold bxN
    rw [bge _ 4 (by omega), bge _ 68 (by omega), bge _ 196 (by omega), blt _ 204 (by omega), cond_false, cond_false, cond_false, cond_true, show 196 + j - 196 = j by omega]
  · show low8 (bxN x) 204 = x.o1
    rw [← low_byteN x.o1]
    unfold low8
    refine congrArg lowL (List.map_congr_left fun j hj => ?_)
    have hj := List.mem_range.1 hj
    unfold bxN
    rw [bge _ 4 (by omega), bge _ 68 (by omega), bge _ 196 (by omega), bge _ 204 (by omega), blt _ 212 (by omega), cond_false, cond_false, cond_false, cond_false, cond_true, show 204 + j - 204 = j by omega]
  · obtain ⟨n, h, m, o0, o1, b⟩ := x
    cases b <;> rfl
theorem ok_bytes (x : XB) : okB (bxN x) 213 = true := by
  obtain ⟨n, h, m, o0, o1, b⟩ := x
  cases b <;> rfl
/-- The bytes of what is read are these. -/
theorem bytes_read {f : Nat → BitVec 8} (h : okB f 213 = true) : ∀ i, i < 213 → bxN (readB f) i = f i := by
  intro i hi
  have blt : ∀ a b : Nat, a < b → Nat.blt a b = true := fun a b h => by rw [Nat.blt_eq]; exact h
  have bge : ∀ a b : Nat, b ≤ a → Nat.blt a b = false := fun a b h => by rw [Bool.eq_false_iff]; intro e; rw [Nat.blt_eq] at e; omega
  unfold bxN
  by_cases h1 : i < 4
  · rw [blt i 4 h1, cond_true]
    refine BitVec.eq_of_getLsbD_eq fun k hk => ?_
    rw [sh4_lsb _ _ _ hk]
    show (join4 f).getLsbD _ = _
    rw [join4_lsb _ _ (by omega), show 3 - (24 - 8 * i + k) / 8 = i by omega, show (24 - 8 * i + k) % 8 = k by omega]
  rw [bge i 4 (by omega), cond_false]
  by_cases h2 : i < 68
  · rw [blt i 68 h2, cond_true]
    show byteN (low8 f (4 + 8 * ((i - 4) / 8))) ((i - 4) % 8) = f i
    unfold low8
    rw [byteN_low (fun j => f (4 + 8 * ((i - 4) / 8) + j)) _ (by omega)]
    exact congrArg f (by omega)
  rw [bge i 68 (by omega), cond_false]
  by_cases h3 : i < 196
  · rw [blt i 196 h3, cond_true]
    show byteN (low8 f (68 + 8 * ((i - 68) / 8))) ((i - 68) % 8) = f i
    unfold low8
    rw [byteN_low (fun j => f (68 + 8 * ((i - 68) / 8) + j)) _ (by omega)]
    exact congrArg f (by omega)
  rw [bge i 196 (by omega), cond_false]
  by_cases h4 : i < 204
  · rw [blt i 204 h4, cond_true]
    show byteN (low8 f 196) (i - 196) = f i
    unfold low8
    rw [byteN_low (fun j => f (196 + j)) _ (by omega)]
    exact congrArg f (by omega)
  rw [bge i 204 (by omega), cond_false]
  by_cases h5 : i < 212
  · rw [blt i 212 h5, cond_true]
    show byteN (low8 f 204) (i - 204) = f i
    unfold low8
    rw [byteN_low (fun j => f (204 + j)) _ (by omega)]
    exact congrArg f (by omega)
  rw [bge i 212 (by omega), cond_false]
  obtain rfl : i = 212 := by omega
  unfold okB at h
  rw [Bool.and_eq_true, Bool.not_eq_true'] at h
  have h := h.2
  show (bif f 212 == BitVec.ofInt 8 1 then 1#8 else 0#8) = f 212
  have hlt : (f 212).toNat < 2 := by
    have : ¬ (1 < (f 212).toNat) := fun e => by
      have e2 : Nat.blt (BitVec.ofInt 8 1).toNat (f 212).toNat = true := blt _ _ e
      rw [h] at e2; cases e2
    omega
  have h01 : f 212 = 0#8 ∨ f 212 = 1#8 := by
    rcases (by omega : (f 212).toNat = 0 ∨ (f 212).toNat = 1) with e | e
    · exact .inl (BitVec.eq_of_toNat_eq e)
    · exact .inr (BitVec.eq_of_toNat_eq e)
  rcases h01 with e | e <;> rw [e] <;> rfl
end

section
def gRow (A : Option Addr) (xs : List (BitVec 8)) : Nat → List AV := fun i => (rowY A xs).F (i : Int)
def eqXB (a b : XB) : Bool := (a.n == b.n && ((a.h 0 == b.h 0 && (a.h 1 == b.h 1 && (a.h 2 == b.h 2 && (a.h 3 == b.h 3 && (a.h 4 == b.h 4 && (a.h 5 == b.h 5 && (a.h 6 == b.h 6 && (a.h 7 == b.h 7 && true)))))))) && ((a.m 0 == b.m 0 && (a.m 1 == b.m 1 && (a.m 2 == b.m 2 && (a.m 3 == b.m 3 && (a.m 4 == b.m 4 && (a.m 5 == b.m 5 && (a.m 6 == b.m 6 && (a.m 7 == b.m 7 && (a.m 8 == b.m 8 && (a.m 9 == b.m 9 && (a.m 10 == b.m 10 && (a.m 11 == b.m 11 && (a.m 12 == b.m 12 && (a.m 13 == b.m 13 && (a.m 14 == b.m 14 && (a.m 15 == b.m 15 && true)))))))))))))))) && ((a.o0 == b.o0 && (a.o1 == b.o1 && true)) && ((a.last == b.last) && true)))))
theorem eqXB_self {a b : XB} (hn : a.n = b.n) (hh : ∀ i, i < 8 → a.h i = b.h i) (hm : ∀ i, i < 16 → a.m i = b.m i) (h0 : a.o0 = b.o0) (h1 : a.o1 = b.o1) (hl : a.last = b.last) : eqXB a b = true := by
  unfold eqXB
  rw [hn, h0, h1, hl, hh 0 (by decide), hh 1 (by decide), hh 2 (by decide), hh 3 (by decide), hh 4 (by decide), hh 5 (by decide), hh 6 (by decide), hh 7 (by decide), hm 0 (by decide), hm 1 (by decide), hm 2 (by decide), hm 3 (by decide), hm 4 (by decide), hm 5 (by decide), hm 6 (by decide), hm 7 (by decide), hm 8 (by decide), hm 9 (by decide), hm 10 (by decide), hm 11 (by decide), hm 12 (by decide), hm 13 (by decide), hm 14 (by decide), hm 15 (by decide)]
  simp only [beq_self_eq_true, Bool.and_self]
/-- Its row of bytes, as the calls give it. -/
def rowX (x : XB) : Nat → List AV := fun i => bxG (xbO (xbA x)) (0 + i)
theorem f8_rowX (x : XB) (i : Nat) (h : i < 213) : f8 (rowX x) i = bxN x i := by
  show bxN (xbO (xbA x)) (0 + i) = bxN x i
  rw [Nat.zero_add]
  have e : ∀ k, k < 8 → (xbO (xbA x)).h k = x.h k := fun k hk => by
    match k, hk with
    | 0, _ => rfl
    | 1, _ => rfl
    | 2, _ => rfl
    | 3, _ => rfl
    | 4, _ => rfl
    | 5, _ => rfl
    | 6, _ => rfl
    | 7, _ => rfl
    | k + 8, h => exact absurd h (by omega)
  have e2 : ∀ k, k < 16 → (xbO (xbA x)).m k = x.m k := fun k hk => by
    match k, hk with
    | 0, _ => rfl
    | 1, _ => rfl
    | 2, _ => rfl
    | 3, _ => rfl
    | 4, _ => rfl
    | 5, _ => rfl
    | 6, _ => rfl
    | 7, _ => rfl
    | 8, _ => rfl
    | 9, _ => rfl
    | 10, _ => rfl
    | 11, _ => rfl
    | 12, _ => rfl
    | 13, _ => rfl
    | 14, _ => rfl
    | 15, _ => rfl
    | k + 16, h => exact absurd h (by omega)
  unfold bxN
  rw [show (xbO (xbA x)).n = x.n from rfl, show (xbO (xbA x)).o0 = x.o0 from rfl, show (xbO (xbA x)).o1 = x.o1 from rfl, show (xbO (xbA x)).last = x.last from rfl]
  by_cases h2 : i < 68
  · by_cases h1 : i < 4
    · rw [show Nat.blt i 4 = true from by rw [Nat.blt_eq]; exact h1, cond_true, cond_true]
    · rw [e _ (by omega)]
      rw [show Nat.blt i 68 = true from by rw [Nat.blt_eq]; exact h2]
      simp only [cond_true]
  · by_cases h3 : i < 196
    · rw [show Nat.blt i 4 = false from by rw [Bool.eq_false_iff]; intro q; rw [Nat.blt_eq] at q; omega, show Nat.blt i 68 = false from by rw [Bool.eq_false_iff]; intro q; rw [Nat.blt_eq] at q; omega, show Nat.blt i 196 = true from by rw [Nat.blt_eq]; exact h3]
      simp only [cond_true, cond_false]
      exact congrArg (byteN · _) (e2 _ (by omega))
    · rw [show Nat.blt i 4 = false from by rw [Bool.eq_false_iff]; intro q; rw [Nat.blt_eq] at q; omega, show Nat.blt i 68 = false from by rw [Bool.eq_false_iff]; intro q; rw [Nat.blt_eq] at q; omega, show Nat.blt i 196 = false from by rw [Bool.eq_false_iff]; intro q; rw [Nat.blt_eq] at q; omega]
      simp only [cond_false]
theorem f8_gRow (A : Option Addr) (xs : List (BitVec 8)) (i : Nat) : f8 (gRow A xs) i = xs.getD i 0#8 := by
  show xs.getD ((i : Nat) : Int).toNat 0#8 = _
  rw [Int.toNat_natCast]
theorem all8_gRow (A : Option Addr) (xs : List (BitVec 8)) (m : Nat) : all8 (gRow A xs) m = true := List.all_eq_true.2 fun i _ => rfl
theorem rowB_gRow (A : Option Addr) (xs : List (BitVec 8)) (m : Nat) : rowB (gRow A xs) m = true := List.all_eq_true.2 fun i _ => rfl
theorem strRow_congr {G K : Nat → List AV} {m : Nat} (h : ∀ i, i < m → byteV (G i) = byteV (K i)) : strRow G m = strRow K m := by
  unfold strRow
  exact congrArg strOf (List.map_congr_left fun i hi => by rw [h i (List.mem_range.1 hi)])
theorem mb_bad (A : Option Addr) (xs : List (BitVec 8)) (c : Nat) (x : XB) (h : AllE [(decide ((xs.length : Int) > 300), false), (true, true), (true, true), (all8 (gRow A xs) xs.length, true), (all8 (gRow A xs) xs.length, true), (true, true), (true, true), (true, true), (true, true), (true != decide (strRow (rowX x) 213 = strRow (rowX x) 213), false), (true != eqXB (rdX (f8 (rowX x)) 213) x, false), ((bif okB (f8 (rowX x)) 213 then 0 else 350 : Int) != 0, false), (true != eqXB (rdX (f8 (gRow A xs)) xs.length) (rdX (f8 (gRow A xs)) xs.length), false), (true != (((bif okB (f8 (gRow A xs)) xs.length then 0 else 350 : Int) == 0) == okB (f8 (gRow A xs)) xs.length), false), (!okB (f8 (gRow A xs)) xs.length, true), ((bif okB (f8 (gRow A xs)) xs.length then 0 else 350 : Int) != 350, false), (true, true), (true, true), (true, true), (true, true), (true, true), (true, true), (true, true), (true != decide (strRow (fun i => toldF (H8 x.h) (0 + i)) 64 = strRow (fun i => toldF (H8 x.h) (0 + i)) 64), false), (!okB (f8 (gRow A xs)) xs.length, true)]) : Is (evCall (ELb (rows1 (rowY A xs))) 60 5 [.agg (xbA x), .rsl 0 xs.length c] ⟨[], [false, false, false, false, false, false, true, false, false, true], allW⟩ (fun v _ => v = .bool true true)) := ev_eq [(decide ((xs.length : Int) > 300), false), (true, true), (true, true), (all8 (gRow A xs) xs.length, true), (all8 (gRow A xs) xs.length, true), (true, true), (true, true), (true, true), (true, true), (true != decide (strRow (rowX x) 213 = strRow (rowX x) 213), false), (true != eqXB (rdX (f8 (rowX x)) 213) x, false), ((bif okB (f8 (rowX x)) 213 then 0 else 350 : Int) != 0, false), (true != eqXB (rdX (f8 (gRow A xs)) xs.length) (rdX (f8 (gRow A xs)) xs.length), false), (true != (((bif okB (f8 (gRow A xs)) xs.length then 0 else 350 : Int) == 0) == okB (f8 (gRow A xs)) xs.length), false), (!okB (f8 (gRow A xs)) xs.length, true), ((bif okB (f8 (gRow A xs)) xs.length then 0 else 350 : Int) != 350, false), (true, true), (true, true), (true, true), (true, true), (true, true), (true, true), (true, true), (true != decide (strRow (fun i => toldF (H8 x.h) (0 + i)) 64 = strRow (fun i => toldF (H8 x.h) (0 + i)) 64), false), (!okB (f8 (gRow A xs)) xs.length, true)] (.bool true true : AV) (by kernel_rfl) h
theorem mb_ok (A : Option Addr) (xs : List (BitVec 8)) (c : Nat) (x : XB) (h : AllE [(decide ((xs.length : Int) > 300), false), (true, true), (true, true), (all8 (gRow A xs) xs.length, true), (all8 (gRow A xs) xs.length, true), (true, true), (true, true), (true, true), (true, true), (true != decide (strRow (rowX x) 213 = strRow (rowX x) 213), false), (true != eqXB (rdX (f8 (rowX x)) 213) x, false), ((bif okB (f8 (rowX x)) 213 then 0 else 350 : Int) != 0, false), (true != eqXB (rdX (f8 (gRow A xs)) xs.length) (rdX (f8 (gRow A xs)) xs.length), false), (true != (((bif okB (f8 (gRow A xs)) xs.length then 0 else 350 : Int) == 0) == okB (f8 (gRow A xs)) xs.length), false), (!okB (f8 (gRow A xs)) xs.length, false), (true, true), (true, true), (true, true), (true, true), (true, true), (true, true), (true, true), (true != decide (strRow (fun i => toldF (H8 x.h) (0 + i)) 64 = strRow (fun i => toldF (H8 x.h) (0 + i)) 64), false), (!okB (f8 (gRow A xs)) xs.length, false), (rowB (gRow A xs) xs.length, true), (true, true), (true, true), (false != decide (strRow (rowX (rdX (f8 (gRow A xs)) xs.length)) 213 = strRow (gRow A xs) xs.length), true)]) : Is (evCall (ELb (rows1 (rowY A xs))) 60 5 [.agg (xbA x), .rsl 0 xs.length c] ⟨[], [false, false, false, false, false, false, false, false, false, true], allW⟩ (fun v _ => v = .bool true true)) := ev_eq [(decide ((xs.length : Int) > 300), false), (true, true), (true, true), (all8 (gRow A xs) xs.length, true), (all8 (gRow A xs) xs.length, true), (true, true), (true, true), (true, true), (true, true), (true != decide (strRow (rowX x) 213 = strRow (rowX x) 213), false), (true != eqXB (rdX (f8 (rowX x)) 213) x, false), ((bif okB (f8 (rowX x)) 213 then 0 else 350 : Int) != 0, false), (true != eqXB (rdX (f8 (gRow A xs)) xs.length) (rdX (f8 (gRow A xs)) xs.length), false), (true != (((bif okB (f8 (gRow A xs)) xs.length then 0 else 350 : Int) == 0) == okB (f8 (gRow A xs)) xs.length), false), (!okB (f8 (gRow A xs)) xs.length, false), (true, true), (true, true), (true, true), (true, true), (true, true), (true, true), (true, true), (true != decide (strRow (fun i => toldF (H8 x.h) (0 + i)) 64 = strRow (fun i => toldF (H8 x.h) (0 + i)) 64), false), (!okB (f8 (gRow A xs)) xs.length, false), (rowB (gRow A xs) xs.length, true), (true, true), (true, true), (false != decide (strRow (rowX (rdX (f8 (gRow A xs)) xs.length)) 213 = strRow (gRow A xs) xs.length), true)] (.bool true true : AV) (by kernel_rfl) h
theorem mb_long (A : Option Addr) (xs : List (BitVec 8)) (c : Nat) (x : XB) (h : AllE [(decide ((xs.length : Int) > 300), true)]) : Is (evCall (ELb (rows1 (rowY A xs))) 60 5 [.agg (xbA x), .rsl 0 xs.length c] ⟨[], [true], allW⟩ (fun v _ => v = .bool true true)) := ev_eq [(decide ((xs.length : Int) > 300), true)] (.bool true true : AV) (by kernel_rfl) h
theorem millBytes_law (hW : ∀ w, Calls Try.prog 6 #[] w fun e w' => e = .returned (.bool true) ∧ Below w.heap.size w w') (x : XB) (A : Option Addr) (xs : List (BitVec 8)) (c : Nat) (w : World) (hc : xs.length ≤ c) (hS : SlAt w A (u8Y (natY xs))) : Calls Try.prog 5 #[.agg (xbV x).toArray, .slice A xs.length c] w fun e w' => e = .returned (.bool true) ∧ Below w.heap.size w w' := by
  obtain ⟨hA, hd⟩ := rowY_rd hS
  have hR := rowY_rw hA
  have hE := ELb_ok hR hW
  have harg : RelL (ELb (rows1 (rowY A xs))).rows [] [.agg (xbA x), .rsl 0 xs.length c] [.agg (xbV x).toArray, .slice A xs.length c] := .cons (rel_xbA x) (.cons (.rsl (r := rowY A xs) rfl hc) .nil)
  rcases h0 : decide ((xs.length : Int) > 300) with _ | _
  case true => exact ev_callsR hE 60 (mb_long A xs c x (allE_cons h0 allE_nil)) rfl harg w hd
  have hcx : okB (f8 (rowX x)) 213 = true := by rw [okB_congr (fun i hi => f8_rowX x i hi)]; exact ok_bytes x
  have hread : ∀ f : Nat → BitVec 8, (∀ i, i < 213 → f i = bxN x i) → eqXB (readB f) x = true := fun f hf => by
    obtain ⟨r1, r2, r3, r4, r5, r6⟩ := read_bytes25 x
    refine eqXB_self ?_ (fun i hi => (low8_congr hf (by omega)).trans (r2 i hi)) (fun i hi => (low8_congr hf (by omega)).trans (r3 i hi)) ((low8_congr hf (by decide)).trans r4) ((low8_congr hf (by decide)).trans r5) ?_
    · refine Eq.trans ?_ r1
      show join4 f = join4 (bxN x)
      unfold join4
      rw [hf 0 (by decide), hf 1 (by decide), hf 2 (by decide), hf 3 (by decide)]
    · refine Eq.trans ?_ r6
      show (f 212 == _) = (bxN x 212 == _)
      rw [hf 212 (by decide)]
  have hy : (true != eqXB (rdX (f8 (rowX x)) 213) x) = false := by
    unfold rdX
    rw [hcx, bifX_true, hread _ (fun i hi => f8_rowX x i hi)]
    rfl
  have hoy : ((bif okB (f8 (rowX x)) 213 then 0 else 350 : Int) != 0) = false := by rw [hcx]; rfl
  have hz : (true != eqXB (rdX (f8 (gRow A xs)) xs.length) (rdX (f8 (gRow A xs)) xs.length)) = false := by rw [eqXB_self rfl (fun _ _ => rfl) (fun _ _ => rfl) rfl rfl rfl]; rfl
  rcases hk : okB (f8 (gRow A xs)) xs.length with _ | _
  · exact ev_callsR hE 60 (mb_bad A xs c x (allE_cons h0 (allE_cons rfl (allE_cons rfl (allE_cons (all8_gRow _ _ _) (allE_cons (all8_gRow _ _ _) (allE_cons rfl (allE_cons rfl (allE_cons rfl (allE_cons rfl (allE_cons (by simp) (allE_cons hy (allE_cons hoy (allE_cons hz (allE_cons (by rw [hk]; rfl) (allE_cons (by rw [hk]; rfl) (allE_cons (by rw [hk]; rfl) (allE_cons rfl (allE_cons rfl (allE_cons rfl (allE_cons rfl (allE_cons rfl (allE_cons rfl (allE_cons rfl (allE_cons (by simp) (allE_cons (by rw [hk]; rfl) (allE_nil))))))))))))))))))))))))))) rfl harg w hd
  · have hs : (false != decide (strRow (rowX (rdX (f8 (gRow A xs)) xs.length)) 213 = strRow (gRow A xs) xs.length)) = true := by
      have hn : xs.length = 213 := by
        unfold okB at hk
        rw [Bool.and_eq_true] at hk
        exact Nat.eq_of_beq_eq_true hk.1
      rw [decide_eq_true]
      · rfl
      · rw [hn] at hk ⊢
        refine strRow_congr fun i hi => ?_
        show some ((f8 (rowX (rdX (f8 (gRow A xs)) 213)) i).toNat : Int) = some ((f8 (gRow A xs) i).toNat : Int)
        rw [f8_rowX _ i hi]
        unfold rdX
        rw [hk, bifX_true, bytes_read hk i hi]
    exact ev_callsR hE 60 (mb_ok A xs c x (allE_cons h0 (allE_cons rfl (allE_cons rfl (allE_cons (all8_gRow _ _ _) (allE_cons (all8_gRow _ _ _) (allE_cons rfl (allE_cons rfl (allE_cons rfl (allE_cons rfl (allE_cons (by simp) (allE_cons hy (allE_cons hoy (allE_cons hz (allE_cons (by rw [hk]; rfl) (allE_cons (by rw [hk]; rfl) (allE_cons rfl (allE_cons rfl (allE_cons rfl (allE_cons rfl (allE_cons rfl (allE_cons rfl (allE_cons rfl (allE_cons (by simp) (allE_cons (by rw [hk]; rfl) (allE_cons (rowB_gRow _ _ _) (allE_cons rfl (allE_cons rfl (allE_cons hs (allE_nil)))))))))))))))))))))))))))))) rfl harg w hd
end
end Go.Proofs.Ytjlijocnmicdpaa
