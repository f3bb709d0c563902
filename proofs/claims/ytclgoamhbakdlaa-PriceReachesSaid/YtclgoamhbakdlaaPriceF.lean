/- Walks: what bytes cost. -/
import Derived.Test.YtclgoamhbakdlaaPriceE
import Derived.Test.YtclgoamhbakdlaaCat
set_option linter.unusedVariables false
set_option linter.unusedSimpArgs false
namespace Go.Proofs.Ytclgoamhbakdlaa
open Go.RowKit

def dataI (x : Int) : Int := if x = 0 then 4 else 16
def costB (xs : List Int) : Int := (xs.map dataI).sum
theorem costB_take {xs : List Int} {k : Nat} {x : Int} (h : xs[k]? = some x) : costB (xs.take (k + 1)) = costB (xs.take k) + dataI x := by
  unfold costB; rw [List.take_add_one, h]; simp
theorem costB_bd : ∀ xs : List Int, 0 ≤ costB xs ∧ costB xs ≤ 16 * xs.length
  | [] => by simp [costB]
  | x :: xs => by
    have ih := costB_bd xs
    have : 0 ≤ dataI x ∧ dataI x ≤ 16 := by unfold dataI; split <;> omega
    unfold costB at *
    simp only [List.map_cons, List.sum_cons, List.length_cons]
    omega
theorem costB_le (xs : List Int) (k : Nat) : 0 ≤ costB (xs.take k) ∧ costB (xs.take k) ≤ 16 * xs.length := by
  have := costB_bd (xs.take k)
  have h := List.length_take_le' k xs
  omega
theorem data1_any (x : Int) (w : World) : Calls Try.prog 29 #[.int .u8 x] w fun e w' => e = .returned (.int .u64 (dataI x)) ∧ w = w' := by
  by_cases h : x = 0
  · subst h
    go_enter Try.func29, Try.ntmps29
    go_wp2_with fail
    go_ret
    exact ⟨rfl, rfl⟩
  · have hd : dataI x = 16 := by simp [dataI, h]
    have hb : (x == 0) = false := by simp [h]
    rw [hd]
    clear hd h
    go_enter Try.func29, Try.ntmps29
    go_wp2_with fail
    go_ret
    exact ⟨rfl, rfl⟩
def SuRel (xs : List Int) (w : World) (s i : Value) (wr : World) : Prop := ∃ k : Nat, k ≤ xs.length ∧ i = .int .i64 k ∧ s = .int .u64 (costB (xs.take k)) ∧ w = wr
theorem summed_any (A : Option Addr) (xs : List Int) (cap : Nat) (w : World) (hx : SlAt w A (bytesC xs)) (hcap : xs.length ≤ cap) (hn : xs.length ≤ 100000) :
    Calls Try.prog 27 #[.slice A xs.length cap, .func (.func 29) #[] #[]] w fun e w' => e = .returned (.int .u64 (costB xs)) ∧ w = w' := by
  have HX := Lib.hid hx
  have HLE := Lib.hid (costB_le xs)
  clear hx
  generalize hln : xs.length = n at *
  go_enter Try.func27, Try.ntmps27
  go_wp2_with fail
  go_loopw [4, 9] (fun s i wr => SuRel xs w s i wr) (fun _ i _ => n - (intOf i).toNat)
  case atStart => exact ⟨0, Nat.zero_le _, rfl, rfl, rfl⟩
  case round =>
    obtain ⟨k, hk, rfl, rfl, rfl⟩ := hrel
    by_cases hlt : k < n
    · obtain ⟨x, hxk⟩ : ∃ x, xs[k]? = some x := ⟨xs[k], by simp [hln, hlt]⟩
      obtain ⟨b, off, rfl, hbl, hcell⟩ := HX.out.cell (bytesC_at hxk)
      have hc0 : w.cell? ⟨b, off + k, none⟩ = some (.int .u8 x) := hcell k _ (bytesC_at hxk)
      have HN := Lib.hid (costB_take hxk)
      have h1 := HLE.out k
      have h2 := HLE.out (k + 1)
      rw [HN.out] at h2
      have hw : IntKind.u64.wrap (costB (xs.take k) + dataI x) = costB (xs.take k) + dataI x := IntWalk.u64_in _ (by omega)
      clear hcell
      go_wp2_with fail
      refine (data1_any x _).mono ?_
      rintro e w2 ⟨rfl, rfl⟩
      go_wp2_with fail
      exact ⟨⟨k + 1, by omega, by go_num, by rw [HN.out], rfl⟩, by simp [intOf]; omega⟩
    · have hall : xs.take k = xs := List.take_of_length_le (by omega)
      rw [hall]
      have hd : decide ((k : Int) < n) = false := by simp; omega
      go_wp2_with fail
      go_ret
      exact ⟨rfl, rfl⟩
theorem data_any (B : Option Addr) (l : List Prt) (bc : Nat) (w : World) (hl : SlAt w B (l.map Prt.v)) (hp : ∀ p ∈ l, p.ok w) (hk : l.length ≤ 1000) (hbc : l.length ≤ bc) (hn : lenP l ≤ 100000) :
    Calls Try.prog 16 #[.slice B l.length bc] w fun e w' => e = .returned (.int .u64 (costB (catP l))) ∧ Below w.heap.size w w' := by
  have HC := concat_any B l bc w hl hp hk hbc hn
  have hS := fun (A : Option Addr) (cap : Nat) (W : World) (hx : SlAt W A (bytesC (catP l))) (hcap : lenP l ≤ cap) => summed_any A (catP l) cap W hx (by rw [catP_len]; exact hcap) (by rw [catP_len]; exact hn)
  rw [catP_len] at hS
  have HS := Lib.hid hS
  have HCC := Lib.hid HC
  clear hS hl hp HC
  generalize l.length = n at *
  go_enter Try.func16, Try.ntmps16
  go_wp2_with fail
  refine HCC.out.mono ?_
  rintro e w2 ⟨A, c, rfl, hs, hc, hb, _⟩
  have HH := Lib.hid (HS.out A c w2 hs hc)
  clear hs
  go_wp2_with fail
  refine HH.out.mono ?_
  rintro e w3 ⟨rfl, rfl⟩
  go_wp2_with fail
  go_ret
  exact ⟨rfl, hb⟩
theorem refData_any (A : Option Addr) (xs : List Int) (cap : Nat) (w : World) (hx : SlAt w A (bytesC xs)) (hcap : xs.length ≤ cap) (hn : xs.length ≤ 100000) :
    Calls Try.prog 17 #[.slice A xs.length cap] w fun e w' => e = .returned (.int .u64 (costB xs)) ∧ w = w' := by
  have HX := Lib.hid hx
  have HLE := Lib.hid (costB_le xs)
  clear hx
  generalize hln : xs.length = n at *
  go_enter Try.func17, Try.ntmps17
  go_wp2_with fail
  go_loopw [3, 4] (fun s i wr => SuRel xs w s i wr) (fun _ i _ => n - (intOf i).toNat)
  case atStart => exact ⟨0, Nat.zero_le _, rfl, rfl, rfl⟩
  case round =>
    obtain ⟨k, hk, rfl, rfl, rfl⟩ := hrel
    by_cases hlt : k < n
    · obtain ⟨x, hxk⟩ : ∃ x, xs[k]? = some x := ⟨xs[k], by simp [hln, hlt]⟩
      obtain ⟨b, off, rfl, hbl, hcell⟩ := HX.out.cell (bytesC_at hxk)
      have hc0 : w.cell? ⟨b, off + k, none⟩ = some (.int .u8 x) := hcell k _ (bytesC_at hxk)
      have HN := Lib.hid (costB_take hxk)
      have h1 := HLE.out k
      have h2 := HLE.out (k + 1)
      rw [HN.out] at h2
      clear hcell hxk
      by_cases hx0 : x = 0
      · subst hx0
        have hw : IntKind.u64.wrap (costB (xs.take k) + 4) = costB (xs.take k) + 4 := IntWalk.u64_in _ (by simp [dataI] at h2; omega)
        go_wp2_with fail
        exact ⟨⟨k + 1, by omega, by go_num, by rw [HN.out]; rfl, rfl⟩, by simp [intOf]; omega⟩
      · have hd : dataI x = 16 := by simp [dataI, hx0]
        have hw : IntKind.u64.wrap (costB (xs.take k) + 16) = costB (xs.take k) + 16 := IntWalk.u64_in _ (by omega)
        have HD := Lib.hid hd
        clear hd
        go_wp2_with fail
        exact ⟨⟨k + 1, by omega, by go_num, by rw [HN.out, HD.out], rfl⟩, by simp [intOf]; omega⟩
    · have hall : xs.take k = xs := List.take_of_length_le (by omega)
      rw [hall]
      have hd : decide ((k : Int) < n) = false := by simp; omega
      go_wp2_with fail
      go_ret
      exact ⟨rfl, rfl⟩
end Go.Proofs.Ytclgoamhbakdlaa
