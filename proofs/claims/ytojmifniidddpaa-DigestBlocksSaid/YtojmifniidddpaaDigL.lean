/- What is laid on, part by part, as a range over a function. -/
import Derived.Test.YtojmifniidddpaaDigJ
import Derived.Test.YtojmifniidddpaaRngB
import Derived.OwnWalkIn
import Derived.TacticsInMore
import Derived.LoopNIn
import Derived.LoopIn
import Derived.RegionIn
import Derived.Shelf.Abstract
set_option linter.unusedVariables false
set_option linter.unusedSimpArgs false
namespace Go.Proofs.Ytojmifniidddpaa
open Go.RowKit

attribute [local go_sem] Oper.semAt_some
theorem wpIn_mid {F : Fence} {n : Nat} {P : Program} {c : Code} {Q : Exit → Act → World → Prop} {a : Act} {w : World} {A : Act} {W : World} (h : c.wpIn F n P (fun e a' w' => e = .normal ∧ a' = A ∧ w' = W) a w) (hd : Q .normal A W) : c.wpIn F n P Q a w := by
  refine wpIn_mono h ?_
  rintro e a' w' ⟨rfl, rfl, rfl⟩
  exact hd
abbrev encC (g : Nat) : Nat → Unit → Array Value := fun k _ => #[.slice (some ⟨g, k * 136, none⟩) 136 136]
def units (m : Nat) : List Unit := List.replicate m ()
theorem units_len (m : Nat) : (units m).length = m := by simp [units]
theorem units_at {m k : Nat} (h : k < m) : (units m)[k]? = some () := by simp [units, h]
def ChRel (J : Nat → World → Prop) (m : Nat) (S : Nat → Prop) (w0 : World) (i : Value) (wr : World) : Prop := ∃ k : Nat, k ≤ m ∧ i = .int .i64 (k * 136 : Nat) ∧ J k wr ∧ Keep S w0 wr
set_option maxHeartbeats 4000000 in
set_option maxRecDepth 20000 in
theorem chunk1_seq (b b2 g m N c : Nat) (w0 : World) (S : Nat → Prop) (hc : w0.cell? ⟨b, 0, none⟩ = some (.slice (some ⟨g, 0, none⟩) N c)) (hc2 : w0.cell? ⟨b2, 0, none⟩ = some (.int .i64 136)) (hN : N = m * 136) (hcap : N ≤ c) (hn : m ≤ 1000) (hb : S b) (hb2 : S b2) :
    Seq Try.prog 30 #[.pointer (some ⟨b, 0, none⟩), .pointer (some ⟨b2, 0, none⟩)] (encC g) (units m) S w0 := by
  intro l J Jx W hW hJ hJx hY h0
  have HC := Lib.hid hc
  have HC2 := Lib.hid hc2
  have HY := Lib.hid hY
  have HJ := Lib.hid hJ
  have HX := Lib.hid hJx
  clear hY hJ hJx hc hc2
  refine (callsIn_wide (n := 0)).1 (callsIn_of_wp Try.func30 rfl trivial ?_ rfl)
  simp only [Try.ntmps30, List.size_toArray, List.length_cons, List.length_nil, Nat.reduceAdd, Nat.reduceSub, Array.replicate_succ, Array.replicate_zero, List.push_toArray, List.append_toArray, List.nil_append, List.cons_append]
  gi_wp2
  gi_loopw [4] (fun i wr => ChRel J m S w0 i wr) (fun i _ => m * 136 - (intOf i).toNat)
  case atStart => exact ⟨0, Nat.zero_le _, rfl, h0, hW⟩
  case round =>
    obtain ⟨k, hk, rfl, hj, hkp⟩ := hrel
    have hcW := hkp.cell HC.out hb
    have hcW2 := hkp.cell HC2.out hb2
    by_cases hlt' : k < m
    · have hjd : J k wr.drew := HJ.out.grow hj ((Below.refl _ _).drew)
      obtain ⟨fn, tmps, assign, body, hy, hR⟩ := HY.out k () _ (units_at hlt') hjd
      have hka : k * 136 + 136 ≤ N := by omega
      try simp only [encC] at hy
      generalize hak : k * 136 = a at *
      have hmin : min (136 : Int) ((N : Int) - (a : Int)) = 136 := by omega
      have hmin2 : min (136 : Int) ((N - a : Nat) : Int) = 136 := by omega
      have hcs : (N : Int) - (a : Int) = ((N - a : Nat) : Int) := by omega
      have HN := Lib.hid hN
      clear hj hjd hN
      gi_wp2
      apply wpIn_mid
      · gi_region
        all_goals exact ⟨rfl, rfl, rfl⟩
      gi_wp2
      refine ⟨rfl, ?_⟩
      refine hR.mono ?_
      rintro e W' (⟨rfl, hJ', hk'⟩ | ⟨rfl, hJx', _⟩)
      · have hb3 := hkp.drew.trans (hk'.mono (fun _ h => .inl h))
        clear hk' hy hR hkp hcW hcW2
        have hcW2 := hb3.cell HC2.out hb2
        gi_wp2
        exact ⟨⟨k + 1, by omega, by rw [Nat.succ_mul, hak]; go_num, hJ', hb3⟩, by simp [intOf]; omega⟩
      · clear hy hR hkp
        gi_wp2
        refine bodyPost_ret (results_none rfl _ _ _) rfl ?_
        exact ⟨⟨_, rfl⟩, .inr ⟨k + 1, by rw [units_len]; omega, hJx'⟩⟩
    · obtain rfl : k = m := by omega
      rw [← hN] at *
      gi_wp2
      go_end0
      exact ⟨⟨_, rfl⟩, .inl (by rw [units_len]; exact hj)⟩
theorem chunk_any (A : Option Addr) (n cap : Nat) (w : World) : Calls Try.prog 23 #[.slice A n cap, .int .i64 136] w fun e w' => e = .returned (.func (.func 30) #[] #[.pointer (some ⟨w.heap.size, 0, none⟩), .pointer (some ⟨w.heap.size + 1, 0, none⟩)]) ∧ w' = (w.alloc (.cells #[.slice A n cap] 22)).alloc (.cells #[.int .i64 136] 3) := by
  go_enter Try.func23, Try.ntmps23
  go_wp2_with fail
  go_ret
  exact ⟨by simp, rfl⟩
end Go.Proofs.Ytojmifniidddpaa
