/- Lists of numbers gone over from behind. No condition. -/
import Derived.Test.YtjlijocnmicdpaaRngC
import Derived.Shelf.Abstract
import Derived.RegionIn
import Derived.OwnWalkIn
import Derived.TacticsInMore
import Derived.LoopNIn
import Derived.LoopIn
set_option linter.unusedVariables false
set_option linter.unusedSimpArgs false
namespace Go.Proofs.Ytjlijocnmicdpaa
open Go.RowKit

attribute [local go_sem] Oper.semAt_some
abbrev u64L (xs : List Int) : List Value := xs.map (Value.int .u64)
abbrev bwEnc (n : Nat) : Nat → Int → Array Value := fun k x => #[.int .i64 ((n : Int) - 1 - (k : Int)), .int .u64 x]
def BwRel (J : Nat → World → Prop) (n : Nat) (S : Nat → Prop) (w0 : World) (i : Value) (wr : World) : Prop := ∃ k : Nat, k ≤ n ∧ i = .int .i64 ((n : Int) - 1 - (k : Int)) ∧ J k wr ∧ Keep S w0 wr
theorem rev_at {α : Type} {xs : List α} {n k m : Nat} (hl : xs.length = n) (h : m + k + 1 = n) : xs.reverse[k]? = xs[m]? := by
  rw [List.getElem?_reverse (by omega), hl, show n - 1 - k = m by omega]
set_option maxHeartbeats 4000000 in
set_option maxRecDepth 20000 in
theorem back1_seq (b : Nat) (A : Option Addr) (xs : List Int) (cap : Nat) (w0 : World) (S : Nat → Prop) (hc : w0.cell? ⟨b, 0, none⟩ = some (.slice A xs.length cap)) (hS : SlAt w0 A (u64L xs)) (hcap : xs.length ≤ cap) (hn : xs.length ≤ 100000) (hb : S b) (hA : u64L xs ≠ [] → ∀ b' off, A = some ⟨b', off, none⟩ → S b') :
    Seq Try.prog 63 #[.pointer (some ⟨b, 0, none⟩)] (bwEnc xs.length) xs.reverse S w0 := by
  intro l J Jx W hW hJ hJx hY h0
  have hcW : W.cell? ⟨b, 0, none⟩ = some (.slice A xs.length cap) := hW.cell hc hb
  have HC := Lib.hid hc
  have HS := Lib.hid hS
  have HY := Lib.hid hY
  have HJ := Lib.hid hJ
  have HX := Lib.hid hJx
  have HREV := Lib.hid (fun k m (h : m + k + 1 = xs.length) => rev_at (xs := xs) rfl h)
  have HRL := Lib.hid (show xs.reverse.length = xs.length by simp)
  clear hY hJ hJx hS hc
  generalize hln : xs.length = n at *
  refine (callsIn_wide (n := 0)).1 (callsIn_of_wp Try.func63 rfl trivial ?_ rfl)
  simp only [Try.ntmps63, List.size_toArray, List.length_cons, List.length_nil, Nat.reduceAdd, Nat.reduceSub, Array.replicate_succ, Array.replicate_zero, List.push_toArray, List.append_toArray, List.nil_append, List.cons_append]
  gi_wp2
  gi_loopw [3] (fun i wr => BwRel J n S w0 i wr) (fun i _ => (intOf i + 1).toNat)
  case atStart => exact ⟨0, Nat.zero_le _, by simp, h0, hW⟩
  case round =>
    obtain ⟨k, hk, rfl, hj, hkp⟩ := hrel
    clear hcW
    have hcr := hkp.cell HC.out hb
    by_cases hlt' : k < n
    · obtain ⟨m, hm⟩ : ∃ m, m + k + 1 = n := ⟨n - 1 - k, by omega⟩
      have hmi : ((n : Int) - 1 - (k : Int)) = (m : Int) := by omega
      obtain ⟨x, hx⟩ : ∃ x, xs[m]? = some x := ⟨xs[m]'(by omega), by simp⟩
      have hxr : xs.reverse[k]? = some x := (HREV.out k m hm).trans hx
      have hux : (u64L xs)[m]? = some (.int .u64 x) := by simp [u64L, hx]
      obtain ⟨b', off, rfl, hbl, hcell⟩ := HS.out.cell hux
      have hAb : S b' := hA (by intro h; rw [h] at hux; simp at hux) _ _ rfl
      have hc0 : wr.cell? ⟨b', off + m, none⟩ = some (.int .u64 x) := hkp.cell (hcell m _ hux) hAb
      obtain ⟨fn, tmps, assign, body, hy, hR⟩ := HY.out k x _ hxr hj
      try simp only [bwEnc] at hy
      have hd1 : decide ((0 : Int) ≤ (m : Int)) = true := by simp
      rw [hmi] at hy ⊢
      have hdm : decide ((n : Int) ≤ (m : Int)) = false := by simp; omega
      clear hcell hj
      gi_wp2
      refine ⟨rfl, ?_⟩
      refine hR.mono ?_
      rintro e W' (⟨rfl, hJ', hk'⟩ | ⟨rfl, hJx', _⟩)
      · have hb3 := hkp.trans (hk'.mono (fun _ h => .inl h))
        clear hk' hc0 hy hR hkp hcr
        gi_wp2
        exact ⟨⟨k + 1, by omega, congrArg (Value.int .i64) (by omega), hJ', hb3⟩, by simp only [intOf]; omega⟩
      · clear hc0 hy hR hkp hcr
        gi_wp2
        refine bodyPost_ret (results_none rfl _ _ _) rfl ?_
        exact ⟨⟨_, rfl⟩, .inr ⟨k + 1, by rw [HRL.out]; omega, hJx'⟩⟩
    · obtain rfl : k = n := by omega
      have hd1 : decide ((0 : Int) ≤ (k : Int) - 1 - (k : Int)) = false := by simp; omega
      gi_wp2
      go_end0
      exact ⟨⟨_, rfl⟩, .inl (by rw [HRL.out]; exact hj)⟩
theorem back_any (A : Option Addr) (n cap : Nat) (w : World) : Calls Try.prog 62 #[.slice A n cap] w fun e w' => e = .returned (.func (.func 63) #[] #[.pointer (some ⟨w.heap.size, 0, none⟩)]) ∧ w' = w.alloc (.cells #[.slice A n cap] 69) := by
  go_enter Try.func62, Try.ntmps62
  go_wp2_with fail
  go_ret
  exact ⟨rfl, rfl⟩
end Go.Proofs.Ytjlijocnmicdpaa
