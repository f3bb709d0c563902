/- The law WarmHolds, any calls. No condition. -/
import Derived.Test.YtjbleblllmbcbaaWarmD
set_option linter.unusedVariables false
set_option linter.unusedSimpArgs false
set_option maxRecDepth 100000
namespace Go.Proofs.Ytjbleblllmbcbaa
open Go.RowKit

set_option maxHeartbeats 8000000 in
theorem warmHolds_any (A : Option Addr) (xs : List Ac) (c : Nat) (w : World) (hS : SlAt w A (xs.flatMap Ac.cells)) (hcap : xs.length ≤ c) :
    Calls Try.prog 3 #[.slice A xs.length c] w fun e w' => e = .returned (.bool true) ∧ Below w.heap.size w w' := by
  obtain ⟨hAs, hRd⟩ := rowA_rd hS
  have hRw := rowA_ok (A := A) (xs := xs) hAs
  have hE := hEW hRw
  have hrel : RelL (rows1 (rowA A xs)) [] [.rsl 0 (rowA A xs).n c] [.slice A xs.length c] := .cons (.rsl rfl (by exact hcap)) .nil
  have hN : ((rowA A xs).n : Int) = (xs.length : Int) := rfl
  by_cases h30 : 30 < xs.length
  · exact ev_calls_rd hE 60 (wh_much A xs c (allE_cons (by rw [hN]; simp; omega) allE_nil)).is rfl hrel w hRd
  refine ev_enter (E := (EW (rows1 (rowA A xs)))) (fn := Try.f3) (c := (Try.f3.body.getD .skip)) Try.func3 (by kernel_rfl) (args := [.rsl 0 (rowA A xs).n c]) (Args := [.slice A xs.length c]) (show 1 ≤ Try.f3.ntmps by decide) hrel hRd (ds := [false]) (wr := allW) fun a0 hP hB => ?_
  refine ev_seqs hE 60 5 (wh_a A xs c (allE_cons (by rw [hN]; simp; omega) allE_nil)) hP hB fun a1 Hr1 w1 hP1 hB1 _ => ?_
  refine wp_parts (by kernel_rfl) ?_
  refine ev_seqs hE 60 1 (wh_b A xs c) hP1 hB1 fun a2 Hr2 w2 hP2 hB2 _ => ?_
  refine wp_bk (by kernel_rfl) ?_
  have hbd : ∀ k : Nat, k < xs.length → decide (0 ≤ (k : Int) ∧ (k : Int) < ((rowA A xs).n : Int)) = true := fun k hk => by rw [hN]; simp; omega
  have hwk : ∀ k : Nat, k < xs.length → IntKind.i64.wrap ((k : Int) + 1) = ((k + 1 : Nat) : Int) := fun k hk => by rw [IntKind.wrap_i64]; omega
  have hP2' := patSt_live (live' := [(0, .rsl 0 (rowA A xs).n c), (2, .bool true false), (3, .ptr 2 0), (4, .ptr 5 0), (5, .mp 6), (6, .mp 7), (7, .int .i64 false ((0 : Nat) : Int))]) (patSt_int (d := 7) (k := .i64) (l := true) (x := 0) (l' := false) hP2 (by kernel_rfl) (by decide) rfl) (looks_of (by rfl)) (by kernel_rfl)
  refine ev_loopG (by kernel_rfl) xs.length (.exit 0) rfl (fun k => [(0, .rsl 0 (rowA A xs).n c), (2, .bool true false), (3, .ptr 2 0), (4, .ptr 5 0), (5, .mp 6), (6, .mp 7), (7, .int .i64 false (k : Nat))]) (fun k => [.map ⟨u20, false, [.bool], (insM [.bool true] ((xs.take k).filterMap selA))⟩, .map ⟨u24, false, [.bool], (insM [.bool true] ((xs.take k).filterMap selS))⟩, .cells [.mp 0, .mp 1] 64, .map ⟨u20, false, [.bool], []⟩, .map ⟨u24, false, [.bool], []⟩, .cells [.mp 3, .mp 4] 64, .map ⟨u24, false, [.int .i64], (insM [.int .i64 1] ((xs.take k).filterMap selS))⟩, .map ⟨u20, false, [.int .i64], (insM [.int .i64 1] ((xs.take k).filterMap selA))⟩]) (live' := [(0, .rsl 0 (rowA A xs).n c), (2, .bool true false), (3, .ptr 2 0), (4, .ptr 5 0), (5, .mp 6), (6, .mp 7)]) (H' := [.map ⟨u20, false, [.bool], (insM [.bool true] ((xs.take xs.length).filterMap selA))⟩, .map ⟨u24, false, [.bool], (insM [.bool true] ((xs.take xs.length).filterMap selS))⟩, .cells [.mp 0, .mp 1] 64, .map ⟨u20, false, [.bool], []⟩, .map ⟨u24, false, [.bool], []⟩, .cells [.mp 3, .mp 4] 64, .map ⟨u24, false, [.int .i64], (insM [.int .i64 1] ((xs.take xs.length).filterMap selS))⟩, .map ⟨u20, false, [.int .i64], (insM [.int .i64 1] ((xs.take xs.length).filterMap selA))⟩]) (fun k hk a Hr w Q' hP hB hn => ?_) (fun a Hr w Q' hP hB hn => ?_) hP2' hB2 fun a3 Hr3 w3 hP3 hB3 => ?_
  · have ea := take_snoc hk selA
    have es := take_snoc hk selS
    have hvk : (((k : Nat) : Int)).toNat = k := Int.toNat_natCast k
    by_cases hw : (xs.getD k ac0).w = 0
    · have e1 : selA (xs.getD k ac0) = some (xs.getD k ac0).ka := by unfold selA; rw [if_pos hw]
      have e2 : selS (xs.getD k ac0) = none := by unfold selS; rw [if_pos hw]
      rw [e1] at ea; rw [e2] at es
      have hp := wh_r0 A xs c (k : Int) (insM [.bool true] ((xs.take k).filterMap selA)) (insM [.bool true] ((xs.take k).filterMap selS)) (insM [.int .i64 1] ((xs.take k).filterMap selS)) (insM [.int .i64 1] ((xs.take k).filterMap selA)) (allE_cons (by rw [hN]; simp; omega) (allE_cons (hbd k hk) (allE_cons (by rw [hvk, hw]; rfl) (allE_cons (by rw [cold_ins]; rfl) (allE_cons (has_put _ _) allE_nil)))))
      rw [hwk k hk, hvk, ← insM_snoc, ← insM_snoc, ← show (xs.take (k + 1)).filterMap selA = (xs.take k).filterMap selA ++ [(xs.getD k ac0).ka] from ea] at hp
      refine ev_codeS hE 60 [0, 1, 2, 3, 4, 5, 6, 7] .normal (by kernel_rfl) hp hP hB fun a' Hr' w' hP' hB' => hn a' Hr' w' ?_ ?_
      · rw [show (xs.take (k + 1)).filterMap selS = (xs.take k).filterMap selS by rw [es]; simp]; exact hP'
      · rw [show (xs.take (k + 1)).filterMap selS = (xs.take k).filterMap selS by rw [es]; simp]; exact hB'
    · have e1 : selA (xs.getD k ac0) = none := by unfold selA; rw [if_neg hw]
      have e2 : selS (xs.getD k ac0) = some (xs.getD k ac0).ks := by unfold selS; rw [if_neg hw]
      rw [e1] at ea; rw [e2] at es
      have hp := wh_r1 A xs c (k : Int) (insM [.bool true] ((xs.take k).filterMap selA)) (insM [.bool true] ((xs.take k).filterMap selS)) (insM [.int .i64 1] ((xs.take k).filterMap selS)) (insM [.int .i64 1] ((xs.take k).filterMap selA)) (allE_cons (by rw [hN]; simp; omega) (allE_cons (hbd k hk) (allE_cons (by rw [hvk]; simpa using hw) (allE_cons (by rw [cold_ins]; rfl) (allE_cons (has_put _ _) allE_nil)))))
      rw [hwk k hk, hvk, ← insM_snoc, ← insM_snoc, ← show (xs.take (k + 1)).filterMap selS = (xs.take k).filterMap selS ++ [(xs.getD k ac0).ks] from es] at hp
      refine ev_codeS hE 60 [0, 1, 2, 3, 4, 5, 6, 7] .normal (by kernel_rfl) hp hP hB fun a' Hr' w' hP' hB' => hn a' Hr' w' ?_ ?_
      · rw [show (xs.take (k + 1)).filterMap selA = (xs.take k).filterMap selA by rw [ea]; simp]; exact hP'
      · rw [show (xs.take (k + 1)).filterMap selA = (xs.take k).filterMap selA by rw [ea]; simp]; exact hB'
  · exact ev_codeS hE 60 [0, 1, 2, 3, 4, 5, 6, 7] (.exit 0) (by kernel_rfl) (wh_rx A xs c _ _ _ _ _ (allE_cons (by rw [hN]; simp) allE_nil)) hP hB hn
  refine wp_parts (by kernel_rfl) ?_
  refine ev_seqs hE 60 1 (wh_c A xs c _ _ _ _) hP3 hB3 fun a4 Hr4 w4 hP4 hB4 _ => ?_
  refine wp_bk (by kernel_rfl) ?_
  have hw0 : IntKind.i64.wrap (((rowA A xs).n : Int) - 1) = ((xs.length : Int) - 1 - ((0 : Nat) : Int)) := by rw [hN, IntKind.wrap_i64]; omega
  rw [hw0] at hP4
  have e0 : ∀ f, insM [.bool true] ((backL xs 0).filterMap f) = [] := fun f => by simp [backL, insM]
  refine ev_loopG (by kernel_rfl) xs.length (.exit 2) rfl (fun j => [(0, .rsl 0 (rowA A xs).n c), (2, .bool true false), (3, .ptr 2 0), (4, .ptr 5 0), (5, .mp 6), (6, .mp 7), (14, .int .i64 false ((xs.length : Int) - 1 - (j : Nat)))]) (fun j => [.map ⟨u20, false, [.bool], (insM [.bool true] ((xs.take xs.length).filterMap selA))⟩, .map ⟨u24, false, [.bool], (insM [.bool true] ((xs.take xs.length).filterMap selS))⟩, .cells [.mp 0, .mp 1] 64, .map ⟨u20, false, [.bool], (insM [.bool true] ((backL xs j).filterMap selA))⟩, .map ⟨u24, false, [.bool], (insM [.bool true] ((backL xs j).filterMap selS))⟩, .cells [.mp 3, .mp 4] 64, .map ⟨u24, false, [.int .i64], (insM [.int .i64 1] ((xs.take xs.length).filterMap selS))⟩, .map ⟨u20, false, [.int .i64], (insM [.int .i64 1] ((xs.take xs.length).filterMap selA))⟩]) (live' := [(0, .rsl 0 (rowA A xs).n c), (2, .bool true false), (3, .ptr 2 0), (4, .ptr 5 0), (5, .mp 6), (6, .mp 7)]) (H' := [.map ⟨u20, false, [.bool], (insM [.bool true] ((xs.take xs.length).filterMap selA))⟩, .map ⟨u24, false, [.bool], (insM [.bool true] ((xs.take xs.length).filterMap selS))⟩, .cells [.mp 0, .mp 1] 64, .map ⟨u20, false, [.bool], (insM [.bool true] ((backL xs xs.length).filterMap selA))⟩, .map ⟨u24, false, [.bool], (insM [.bool true] ((backL xs xs.length).filterMap selS))⟩, .cells [.mp 3, .mp 4] 64, .map ⟨u24, false, [.int .i64], (insM [.int .i64 1] ((xs.take xs.length).filterMap selS))⟩, .map ⟨u20, false, [.int .i64], (insM [.int .i64 1] ((xs.take xs.length).filterMap selA))⟩]) (fun j hj a Hr w Q' hP hB hn => ?_) (fun a Hr w Q' hP hB hn => ?_) (by simp only [e0]; exact hP4) (by simp only [e0]; exact hB4) fun a5 Hr5 w5 hP5 hB5 => ?_
  · have ea := back_snoc hj selA
    have es := back_snoc hj selS
    have hvk : ((xs.length : Int) - 1 - (j : Nat)).toNat = xs.length - 1 - j := by omega
    have hwj : IntKind.i64.wrap ((xs.length : Int) - 1 - (j : Nat) - 1) = (xs.length : Int) - 1 - ((j + 1 : Nat) : Int) := by rw [IntKind.wrap_i64]; omega
    have hb : decide (0 ≤ (xs.length : Int) - 1 - (j : Nat) ∧ (xs.length : Int) - 1 - (j : Nat) < ((rowA A xs).n : Int)) = true := by rw [hN]; simp; omega
    have h0 : decide ((xs.length : Int) - 1 - (j : Nat) ≥ 0) = true := by simp; omega
    by_cases hw : (xs.getD (xs.length - 1 - j) ac0).w = 0
    · have e1 : selA (xs.getD (xs.length - 1 - j) ac0) = some (xs.getD (xs.length - 1 - j) ac0).ka := by unfold selA; rw [if_pos hw]
      have e2 : selS (xs.getD (xs.length - 1 - j) ac0) = none := by unfold selS; rw [if_pos hw]
      rw [e1] at ea; rw [e2] at es
      have hp := wh_q0 A xs c ((xs.length : Int) - 1 - (j : Nat)) (insM [.bool true] ((xs.take xs.length).filterMap selA)) (insM [.bool true] ((xs.take xs.length).filterMap selS)) (insM [.bool true] ((backL xs j).filterMap selA)) (insM [.bool true] ((backL xs j).filterMap selS)) (insM [.int .i64 1] ((xs.take xs.length).filterMap selS)) (insM [.int .i64 1] ((xs.take xs.length).filterMap selA)) (allE_cons h0 (allE_cons hb (allE_cons (by rw [hvk, hw]; rfl) (allE_cons hb allE_nil))))
      rw [hwj, hvk, ← insM_snoc, ← show (backL xs (j + 1)).filterMap selA = (backL xs j).filterMap selA ++ [(xs.getD (xs.length - 1 - j) ac0).ka] from ea] at hp
      refine ev_codeS hE 60 [0, 1, 2, 3, 4, 5, 6, 7] .normal (by kernel_rfl) hp hP hB fun a' Hr' w' hP' hB' => hn a' Hr' w' ?_ ?_
      · rw [show (backL xs (j + 1)).filterMap selS = (backL xs j).filterMap selS by rw [es]; simp]; exact hP'
      · rw [show (backL xs (j + 1)).filterMap selS = (backL xs j).filterMap selS by rw [es]; simp]; exact hB'
    · have e1 : selA (xs.getD (xs.length - 1 - j) ac0) = none := by unfold selA; rw [if_neg hw]
      have e2 : selS (xs.getD (xs.length - 1 - j) ac0) = some (xs.getD (xs.length - 1 - j) ac0).ks := by unfold selS; rw [if_neg hw]
      rw [e1] at ea; rw [e2] at es
      have hp := wh_q1 A xs c ((xs.length : Int) - 1 - (j : Nat)) (insM [.bool true] ((xs.take xs.length).filterMap selA)) (insM [.bool true] ((xs.take xs.length).filterMap selS)) (insM [.bool true] ((backL xs j).filterMap selA)) (insM [.bool true] ((backL xs j).filterMap selS)) (insM [.int .i64 1] ((xs.take xs.length).filterMap selS)) (insM [.int .i64 1] ((xs.take xs.length).filterMap selA)) (allE_cons h0 (allE_cons hb (allE_cons (by rw [hvk]; simpa using hw) (allE_cons hb (allE_cons hb allE_nil)))))
      rw [hwj, hvk, ← insM_snoc, ← show (backL xs (j + 1)).filterMap selS = (backL xs j).filterMap selS ++ [(xs.getD (xs.length - 1 - j) ac0).ks] from es] at hp
      refine ev_codeS hE 60 [0, 1, 2, 3, 4, 5, 6, 7] .normal (by kernel_rfl) hp hP hB fun a' Hr' w' hP' hB' => hn a' Hr' w' ?_ ?_
      · rw [show (backL xs (j + 1)).filterMap selA = (backL xs j).filterMap selA by rw [ea]; simp]; exact hP'
      · rw [show (backL xs (j + 1)).filterMap selA = (backL xs j).filterMap selA by rw [ea]; simp]; exact hB'
  · exact ev_codeS hE 60 [0, 1, 2, 3, 4, 5, 6, 7] (.exit 2) (by kernel_rfl) (wh_qx A xs c ((xs.length : Int) - 1 - (xs.length : Nat)) _ _ _ _ _ _ (allE_cons (by simp; omega) allE_nil)) hP hB hn
  exact ev_rest hE 60 (wh_z A xs c _ _ _ _ _ _ (allE_cons (eqM_ins (back_all xs selA) _) (allE_cons (eqM_ins (back_all xs selS) _) allE_nil))) rfl (fun i r h h0 => by obtain ⟨_, rfl⟩ := rows1_inv h; show 0 < (xs.getD 0 ac0).cells.length; rw [cells_len]; decide) (show PatSt _ _ _ _ ⟨[.map ⟨u20, false, [.bool], (insM [.bool true] ((xs.take xs.length).filterMap selA))⟩, .map ⟨u24, false, [.bool], (insM [.bool true] ((xs.take xs.length).filterMap selS))⟩, .cells [.mp 0, .mp 1] 64, .map ⟨u20, false, [.bool], (insM [.bool true] ((backL xs xs.length).filterMap selA))⟩, .map ⟨u24, false, [.bool], (insM [.bool true] ((backL xs xs.length).filterMap selS))⟩, .cells [.mp 3, .mp 4] 64, .map ⟨u24, false, [.int .i64], (insM [.int .i64 1] ((xs.take xs.length).filterMap selS))⟩, .map ⟨u20, false, [.int .i64], (insM [.int .i64 1] ((xs.take xs.length).filterMap selA))⟩], [true, true], allW⟩ a5 Hr5 from hP5) hB5
end Go.Proofs.Ytjbleblllmbcbaa
