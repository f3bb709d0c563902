/- Walks of package gauge: whether all of a list are right. -/
import Derived.Test.YtiglfbnicihpmaaSGaugeA
set_option linter.unusedVariables false
set_option linter.unusedSimpArgs false
namespace Go.Proofs.Ytiglfbnicihpmaa
open Go.RowKit

/-- A number with its bounds and its label's number. -/
structure Kn where
  l : Int
  lo : Int
  hi : Int
  a : Int
def Kn.ok (k : Kn) : Bool := rightB k.l k.lo k.hi k.a
/-- A block's row of such, from its head. -/
def KnRow (w : World) (b : Nat) (ks : List Kn) : Prop :=
  ∀ (i : Nat) (k : Kn), ks[i]? = some k → w.cell? ⟨b, i * 4, none⟩ = some (.int .u64 k.l) ∧ w.cell? ⟨b, i * 4 + 1, none⟩ = some (.int .u64 k.lo) ∧ w.cell? ⟨b, i * 4 + 2, none⟩ = some (.int .u64 k.hi) ∧ w.cell? ⟨b, i * 4 + 3, none⟩ = some (.int .u64 k.a)

theorem wrong_any (k : Kn) (w : World) :
    Calls Try.prog 66 #[.agg #[.int .u64 k.l, .int .u64 k.lo, .int .u64 k.hi, .int .u64 k.a]] w fun e w' => e = .returned (.bool (!k.ok)) ∧ Below w.heap.size w w' := by
  go_enter Try.func66, Try.ntmps66
  go_wp2_with fail
  refine (right_any _ _ _ _ _).mono ?_
  rintro e w' ⟨rfl, hb⟩
  go_wp2_with fail
  go_ret
  refine ⟨by simp [Kn.ok], ?_⟩
  exact Below.trans (by go_grown) (hb.mono (by simp))

set_option maxHeartbeats 800000 in
theorem gIndex_any (b n cap : Nat) (ks : List Kn) (w : World) (hn : ks.length = n) (hmax : n ≤ 9223372036854775807) (hb : b < w.heap.size) (hk : KnRow w b ks) :
    Calls Try.prog 71 #[.slice (some ⟨b, 0, none⟩) n cap, .func (.func 66) #[] #[]] w
      fun e w' => ∃ r : Int, e = .returned (.int .i64 r) ∧ decide (0 ≤ r) = !(ks.all Kn.ok) ∧ Below w.heap.size w w' := by
  have HK := Lib.hid hk
  clear hk
  have HN := Lib.hid hn
  clear hn
  go_enter Try.func71, Try.ntmps71
  go_wp2_with fail
  go_loopw [8] (fun i wr => ∃ k : Nat, k ≤ n ∧ i = .int .i64 k ∧ (ks.take k).all Kn.ok = true ∧ Below w.heap.size w wr) (fun i _ => n - (intOf i).toNat)
  case atStart => exact ⟨0, Nat.zero_le _, rfl, rfl, Below.refl _ _⟩
  case round =>
    obtain ⟨k, hk, rfl, hall, hbel⟩ := hrel
    have HA := Lib.hid hall
    clear hall
    by_cases hlt : k < n
    · obtain ⟨q, hq⟩ : ∃ q, ks[k]? = some q := ⟨ks[k]'(by rw [HN.out]; exact hlt), List.getElem?_eq_getElem _⟩
      obtain ⟨g0, g1, g2, g3⟩ := HK.out k q hq
      have HQ := Lib.hid hq
      clear hq
      rw [← hbel.cell (p := ⟨b, k * 4, none⟩) hb] at g0
      rw [← hbel.cell (p := ⟨b, k * 4 + 1, none⟩) hb] at g1
      rw [← hbel.cell (p := ⟨b, k * 4 + 2, none⟩) hb] at g2
      rw [← hbel.cell (p := ⟨b, k * 4 + 3, none⟩) hb] at g3
      have hstep : ∀ x : Bool, q.ok = x → (ks.take (k + 1)).all Kn.ok = x := fun x hx => by
        rw [List.take_add_one, HQ.out]; simp only [Option.toList, List.all_append, HA.out, List.all_cons, List.all_nil, hx, Bool.and_true, Bool.true_and]
      have HS := Lib.hid hstep
      clear hstep
      by_cases hok : q.ok = true
      · have HO := Lib.hid hok
        have hnot : (!q.ok) = false := by rw [hok]; rfl
        clear hok
        go_wp2_with fail
        refine (wrong_any q _).mono ?_
        rintro e w' ⟨rfl, hb1⟩
        go_wp2_with fail
        go_roundw
        case rel => exact ⟨k + 1, by omega, by go_num, HS.out _ HO.out, hbel.trans (hb1.mono hbel.size)⟩
        case measure => simp [intOf]; omega
      · have HO := Lib.hid (show q.ok = false by simpa using hok)
        have hnot : (!q.ok) = true := by rw [HO.out]; rfl
        clear hok
        go_wp2_with fail
        refine (wrong_any q _).mono ?_
        rintro e w' ⟨rfl, hb1⟩
        go_wp2_with fail
        go_ret
        refine ⟨k, rfl, ?_, hbel.trans (hb1.mono hbel.size)⟩
        have h0 : ks.all Kn.ok = false := by
          rw [List.all_eq_false]
          exact ⟨q, List.mem_of_getElem? HQ.out, by rw [HO.out]; simp⟩
        rw [h0]; simp
    · go_wp2_with fail
      go_ret
      refine ⟨-1, rfl, ?_, hbel⟩
      have : ks.take k = ks := List.take_of_length_le (by rw [HN.out]; omega)
      have h0 := HA.out
      rw [this] at h0
      rw [h0]; rfl

theorem contains_any (b n cap : Nat) (ks : List Kn) (w : World) (hn : ks.length = n) (hmax : n ≤ 9223372036854775807) (hb : b < w.heap.size) (hk : KnRow w b ks) :
    Calls Try.prog 65 #[.slice (some ⟨b, 0, none⟩) n cap, .func (.func 66) #[] #[]] w
      fun e w' => e = .returned (.bool (!(ks.all Kn.ok))) ∧ Below w.heap.size w w' := by
  have h := gIndex_any b n cap ks w hn hmax hb hk
  have H := Lib.hid h
  clear h hn hk
  go_enter Try.func65, Try.ntmps65
  go_wp2_with fail
  refine H.out.mono ?_
  rintro e w' ⟨r, rfl, hr, hb1⟩
  have HR := Lib.hid hr
  clear hr
  go_wp2_with fail
  go_ret
  exact ⟨by rw [← HR.out]; rfl, hb1⟩

theorem fits_any (b n cap : Nat) (ks : List Kn) (w : World) (hn : ks.length = n) (hmax : n ≤ 9223372036854775807) (hb : b < w.heap.size) (hk : KnRow w b ks) :
    Calls Try.prog 56 #[.slice (some ⟨b, 0, none⟩) n cap] w fun e w' => e = .returned (.bool (ks.all Kn.ok)) ∧ Below w.heap.size w w' := by
  have H := Lib.hid (contains_any b n cap ks w hn hmax hb hk)
  clear hn hk
  go_enter Try.func56, Try.ntmps56
  go_wp2_with fail
  refine H.out.mono ?_
  rintro e w' ⟨rfl, hb1⟩
  go_wp2_with fail
  go_ret
  exact ⟨by simp, hb1⟩

theorem ofGauge_any (l lo hi a : Int) (w : World) :
    Calls Try.prog 57 #[.agg #[.int .u64 l, .int .u64 lo, .int .u64 hi, .int .u64 a]] w fun e w' => e = .returned (.agg #[.int .u64 l, .int .u64 lo, .int .u64 hi, .int .u64 a]) ∧ Below w.heap.size w w' := by
  go_enter Try.func57, Try.ntmps57
  go_wp2_with fail
  go_returns
  refine ⟨rfl, ?_⟩
  go_grown
theorem ofCost_any (l lo hi a : Int) (w : World) :
    Calls Try.prog 50 #[.agg #[.int .u64 l, .int .u64 lo, .int .u64 hi, .int .u64 a]] w fun e w' => e = .returned (.agg #[.int .u64 l, .int .u64 lo, .int .u64 hi, .int .u64 a]) ∧ Below w.heap.size w w' := by
  go_enter Try.func50, Try.ntmps50
  go_wp2_with fail
  go_returns
  refine ⟨rfl, ?_⟩
  go_grown

/-- A gauge that is made right. -/
def madeA (lo hi a : Int) : Int := if lo = hi then 0 else a
theorem gauge_any (l lo hi a : Int) (w : World) :
    Calls Try.prog 60 #[.agg #[.int .u64 l, .int .u64 lo, .int .u64 hi, .int .u64 a]] w fun e w' => e = .returned (.agg #[.int .u64 l, .int .u64 lo, .int .u64 hi, .int .u64 (madeA lo hi a)]) ∧ Below w.heap.size w w' := by
  by_cases h : lo = hi
  · subst h
    go_enter Try.func60, Try.ntmps60
    go_wp2_with fail
    go_returns
    refine ⟨by simp [madeA], ?_⟩
    go_grown
  · have h' : (lo == hi) = false := by simpa using h
    have hm : madeA lo hi a = a := by simp [madeA, h]
    have HM := Lib.hid hm
    clear h hm
    go_enter Try.func60, Try.ntmps60
    go_wp2_with fail
    go_returns
    refine ⟨by rw [HM.out], ?_⟩
    go_grown
theorem refMade_any (l lo hi a : Int) (w : World) :
    Calls Try.prog 53 #[.int .u64 l, .int .u64 lo, .int .u64 hi, .int .u64 a] w fun e w' => e = .returned (.agg #[.int .u64 l, .int .u64 lo, .int .u64 hi, .int .u64 (madeA lo hi a)]) ∧ Below w.heap.size w w' := by
  by_cases h : lo = hi
  · subst h
    go_enter Try.func53, Try.ntmps53
    go_wp2_with fail
    go_returns
    refine ⟨by simp [madeA], ?_⟩
    go_grown
  · have h' : (lo == hi) = false := by simpa using h
    have hm : madeA lo hi a = a := by simp [madeA, h]
    have HM := Lib.hid hm
    clear h hm
    go_enter Try.func53, Try.ntmps53
    go_wp2_with fail
    go_returns
    refine ⟨by rw [HM.out], ?_⟩
    go_grown
end Go.Proofs.Ytiglfbnicihpmaa
