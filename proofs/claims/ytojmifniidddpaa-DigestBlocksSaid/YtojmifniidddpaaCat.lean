/- Walks: slices.Concat of bytes. -/
import Derived.Test.YtojmifniidddpaaByt
set_option linter.unusedVariables false
set_option linter.unusedSimpArgs false
namespace Go.Proofs.Ytojmifniidddpaa
open Go.RowKit

theorem tinfo_b : (Try.prog.info? 5).map (fun i => (i.zero, i.size, i.bytes)) = some (some (.int .u8 0), 1, 1) := by kernel_rfl
theorem under_b : Try.prog.underlying 22 = some (.slice 5) := by kernel_rfl
theorem under_i : Try.prog.underlying 3 = some (.int .i64) := by kernel_rfl
/-- Room for so many, as yet none. -/
theorem grow_none (w : World) : Calls Try.prog 36 #[.slice none 0 0, .int .i64 0] w fun e w' => e = .returned (.slice none 0 0) ∧ w = w' := by
  go_enter Try.func36, Try.ntmps36
  go_wp2_with fail
  go_ret
  exact ⟨rfl, rfl⟩
theorem grow_some (n : Nat) (w : World) (h0 : 0 < n) (h1 : n ≤ 1000000) : Calls Try.prog 36 #[.slice none 0 0, .int .i64 n] w fun e w' =>
    ∃ cap, e = .returned (.slice (some ⟨w.heap.size, 0, none⟩) 0 cap) ∧ n ≤ cap ∧ w'.ownsRow w.heap.size 5 1 (.slice (some ⟨w.heap.size, 0, none⟩) 0 cap) 0 [] ∧ Below w.heap.size w w' := by
  obtain ⟨i0, hi, hz0, hz1, hz2⟩ := info_parts tinfo_b
  have hw0 : IntKind.i64.wrap (n : Int) = n := by rw [IntKind.wrap_i64]; omega
  go_enter Try.func36, Try.ntmps36
  go_wp2_with (first | (at_builtin; refine wpList_append_make rfl _ _ 22 3 rfl 5 i0 _ 1 under_b under_i hi hz0 hz1 hz2 rfl n rfl (by first | rfl | (simp; done)) h0 h1 (by omega) ?_))
  intro cap w1 hcap hown hb
  have HO := Lib.hid hown
  have HB := Lib.hid hb
  have hc0 : cap ≠ 0 := by omega
  clear hown hb
  go_wp2_with fail
  all_goals go_ret
  all_goals exact ⟨cap, rfl, hcap, HO.out, HB.out⟩
/-- Nothing laid behind nothing. -/
theorem wpList_append_none {P : Program} {w : World} {ops : Array Oper} {rest : List Oper} {o : Oper} {a : Act} {Q : Exit → Act → World → Prop} (hgd : o.guard = none) (s x : Operand) (t : TypeId)
    (ho : o.op = .call { callee := .builtin .append, args := #[s, x], argTypes := #[t, t] })
    (e : TypeId) (i : TypeInfo) (ht : P.underlying t = some (.slice e)) (hi : P.info? e = some i) (A : Option Addr) (c : Nat)
    (hs : a.eval s = .slice none 0 0) (hx : a.eval x = .slice A 0 c) (h : wpList P ops Q rest (a.put o.dst (.slice none 0 0)) w) : wpList P ops Q (o :: rest) a w := by
  have hrun : (Builtin.append_ #[t, t] o.type #[.slice none 0 0, .slice A 0 c]).run P w = .ok (.slice none 0 0) w := by
    have hd : P.underlying t = some (.slice e) := ht
    cases A <;> simp [Builtin.append_, run_underlying ht, sizeOf, typeInfo, hi, Builtin.lenOf, Builtin.firstCells, loadCells, loadCellsFrom]
  refine wpList_plain hgd fun K hK => ?_
  unfold Oper.wp execOp
  simp only [ho, resolve, invoke, builtin, Sem.run_bind, Sem.run_pure, Result.andThen_ok, List.map_toArray, List.map_cons, List.map_nil, hs, hx, hrun]
  exact hK _ _ h
/-- Parts that lie one behind the other. -/
structure Prt where
  A : Option Addr
  xs : List Int
  c : Nat
def Prt.v (p : Prt) : Value := .slice p.A p.xs.length p.c
def Prt.ok (p : Prt) (w : World) : Prop := SlAt w p.A (bytesC p.xs) ∧ p.xs.length ≤ p.c ∧ (p.A = none → p.xs = [] ∧ p.c = 0)
def lenP (l : List Prt) : Nat := (l.map fun p => p.xs.length).sum
def catP (l : List Prt) : List Int := l.flatMap Prt.xs
theorem lenP_take {l : List Prt} {k : Nat} {p : Prt} (h : l[k]? = some p) : lenP (l.take (k + 1)) = lenP (l.take k) + p.xs.length := by
  unfold lenP; rw [List.take_add_one, h]; simp
theorem catP_take {l : List Prt} {k : Nat} {p : Prt} (h : l[k]? = some p) : catP (l.take (k + 1)) = catP (l.take k) ++ p.xs := by
  unfold catP; rw [List.take_add_one, h]; simp
theorem catP_len (l : List Prt) : (catP l).length = lenP l := by
  induction l with
  | nil => rfl
  | cons p l ih => unfold catP lenP at *; simp [ih]
theorem lenP_le (l : List Prt) (k : Nat) : lenP (l.take k) ≤ lenP l := by
  conv => rhs; rw [← List.take_append_drop k l]
  unfold lenP; rw [List.map_append, List.sum_append]; omega
def SumRel (l : List Prt) (w : World) (s i : Value) (wr : World) : Prop := ∃ k : Nat, k ≤ l.length ∧ i = .int .i64 k ∧ s = .int .i64 (lenP (l.take k) : Nat) ∧ w = wr
def CatRel (l : List Prt) (w : World) (v i : Value) (wr : World) : Prop :=
  ∃ k : Nat, k ≤ l.length ∧ i = .int .i64 k ∧ Below w.heap.size w wr ∧ ((lenP l = 0 ∧ v = .slice none 0 0) ∨ ∃ g cap, v = .slice (some ⟨g, 0, none⟩) (lenP (l.take k)) cap ∧ lenP l ≤ cap ∧ w.heap.size ≤ g ∧ wr.ownsRow w.heap.size 5 1 (.slice (some ⟨g, 0, none⟩) (lenP (l.take k)) cap) (lenP (l.take k)) (bytesC (catP (l.take k))))
set_option maxHeartbeats 2000000 in
set_option maxRecDepth 20000 in
theorem concat_any (B : Option Addr) (l : List Prt) (bc : Nat) (w : World) (hl : SlAt w B (l.map Prt.v)) (hp : ∀ p ∈ l, p.ok w) (hk : l.length ≤ 1000) (hbc : l.length ≤ bc) (hn : lenP l ≤ 100000) :
    Calls Try.prog 27 #[.slice B l.length bc] w (Gives w (bytesC (catP l)) (lenP l)) := by
  obtain ⟨i0, hi, hz0, hz1, hz2⟩ := info_parts tinfo_b
  have HL := Lib.hid hl
  have HP := Lib.hid hp
  have HG0 := Lib.hid grow_none
  have HG1 := Lib.hid fun W h0 => grow_some (lenP l) W h0 (by omega)
  have HLE := Lib.hid (lenP_le l)
  have HI := Lib.hid hi
  clear hl hp
  generalize hln : l.length = n at *
  go_enter Try.func27, Try.ntmps27
  go_wp2_with fail
  go_loopw [3, 11] (fun s i wr => SumRel l w s i wr) (fun _ i _ => n - (intOf i).toNat)
  case atStart => exact ⟨0, Nat.zero_le _, rfl, by simp [lenP], rfl⟩
  case round =>
    obtain ⟨k, hk1, rfl, rfl, rfl⟩ := hrel
    by_cases hlt : k < n
    · obtain ⟨p, hpk⟩ : ∃ p, l[k]? = some p := ⟨l[k], by simp [hln, hlt]⟩
      obtain ⟨b, off, rfl, hbl, hcell⟩ := HL.out.cell (j := k) (u := p.v) (by simp [hpk])
      have hc0 : w.cell? ⟨b, off + k, none⟩ = some (.slice p.A p.xs.length p.c) := hcell k _ (by simp [hpk]; rfl)
      have hnx := lenP_take hpk
      have h1 := HLE.out k
      have h2 := HLE.out (k + 1)
      have HN := Lib.hid hnx
      clear hcell hpk
      rw [hnx] at h2
      clear hnx
      generalize hs : lenP (l.take k) = s at *
      generalize p.xs.length = m at *
      generalize p.A = A at *
      generalize p.c = c at *
      have hw : IntKind.i64.wrap ((s : Int) + (m : Int)) = ((s + m : Nat) : Int) := by rw [IntKind.wrap_i64]; omega
      have hd : decide (((s + m : Nat) : Int) < 0) = false := by simp; omega
      have HW := hw
      go_wp2_with fail
      exact ⟨⟨k + 1, by omega, by go_num, by rw [HN.out, Int.natCast_add], rfl⟩, by simp [intOf]; omega⟩
    · have hall : l.take k = l := List.take_of_length_le (by omega)
      rw [hall]
      have hlt' : decide ((k : Int) < n) = false := by simp; omega
      obtain rfl : k = n := by omega
      have HC : Calls Try.prog 36 #[.slice none 0 0, .int .i64 (lenP l : Nat)] w fun e w' => ∃ v, e = .returned v ∧ CatRel l w v (.int .i64 0) w' := by
        by_cases hz : lenP l = 0
        · have := HG0.out w
          rw [hz]
          exact this.mono fun e w' ⟨he, hw⟩ => ⟨_, he, 0, Nat.zero_le _, rfl, by rw [← hw]; exact Below.refl _ _, .inl ⟨hz, rfl⟩⟩
        · exact (HG1.out w (by omega)).mono fun e w' ⟨cap, he, hc, ho, hb⟩ => ⟨_, he, 0, Nat.zero_le _, rfl, hb, .inr ⟨w.heap.size, cap, by simp [lenP], hc, Nat.le_refl _, by simpa [lenP, catP, bytesC] using ho⟩⟩
      have HCC := Lib.hid HC
      clear HC HG0 HG1
      go_wp2_with fail
      refine HCC.out.mono ?_
      rintro e w2 ⟨v, rfl, hrel⟩
      have HR := Lib.hid hrel
      clear hrel HCC hlt'
      go_wp2_with fail
      go_loopw [6, 27] (fun v i w3 => CatRel l w v i w3) (fun _ i _ => k - (intOf i).toNat)
      case atStart => exact HR.out
      case round =>
        clear HR
        obtain ⟨j, hj, rfl, hb, hv⟩ := hrel
        by_cases hjk : j < k
        · obtain ⟨p, hpk⟩ : ∃ p, l[j]? = some p := ⟨l[j], by simp [hln, hjk]⟩
          obtain ⟨b, off, rfl, hbl, hcell⟩ := HL.out.cell (j := j) (u := p.v) (by simp [hpk])
          have hc0 : wr.cell? ⟨b, off + j, none⟩ = some (.slice p.A p.xs.length p.c) := (hb.cell (p := ⟨b, off + j, none⟩) hbl).trans (hcell j _ (by simp [hpk]; rfl))
          obtain ⟨hp1, hp2, hp3⟩ := HP.out p (List.mem_of_getElem? hpk)
          have hpS := hp1.grow hb
          have HN := Lib.hid (lenP_take hpk)
          have HT := Lib.hid (catP_take hpk)
          have h2 := HLE.out (j + 1)
          rw [HN.out] at h2
          clear hcell hp1
          rcases hv with ⟨hz, rfl⟩ | ⟨g, cap, rfl, hcap, hg, hown⟩
          · have hx0 : p.xs.length = 0 := by omega
            rw [hx0] at hc0
            have HZ := Lib.hid hz
            clear hz h2 hx0 hp2 hp3
            go_wp2_with (first | (at_builtin; refine wpList_append_none rfl _ _ 22 rfl 5 i0 under_b HI.out p.A p.c rfl rfl ?_))
            exact ⟨⟨j + 1, by omega, by go_num, hb, .inl ⟨HZ.out, rfl⟩⟩, by simp [intOf]; omega⟩
          · have HO := Lib.hid hown
            have HS := Lib.hid hpS
            have HB := Lib.hid hb
            have hone := Lib.hid (bytesC_one p.xs)
            have hlenx := Lib.hid (bytesC_len p.xs)
            clear hown hpS
            go_wp2_with (first | (at_builtin; refine wpList_append_fits_any _ rfl _ _ 22 rfl w.heap.size 5 i0 1 under_b HI.out hz1 g (lenP (l.take j)) cap (bytesC (catP (l.take j))) rfl HO.out p.A p.xs.length p.c (bytesC p.xs) rfl (by rw [hlenx.out, Nat.mul_one]) (fun h => by have := hp3 h; rw [this.1]; exact ⟨rfl, this.2⟩) (fun ad had k u hu => ?cells) hone.out (by omega) ?_))
            case cells =>
              obtain ⟨b', off', hA, _, hcs⟩ := HS.out.cell hu
              rw [hA] at had
              cases had
              rw [Addr.add_lit]
              exact hcs k u hu
            intro w3 hown3 hg3
            have hb3 : Below w.heap.size w w3 := HB.out.grown hg3 HB.out.size (fun k e => by cases e; exact hg)
            have hO3 : w3.ownsRow w.heap.size 5 1 (.slice (some ⟨g, 0, none⟩) (lenP (l.take (j + 1))) cap) (lenP (l.take (j + 1))) (bytesC (catP (l.take (j + 1)))) := by
              rw [HN.out, HT.out, bytesC_app]; exact hown3
            have HO3 := Lib.hid hO3
            have HB3 := Lib.hid hb3
            clear hown3 hg3 hO3 hb3 HO
            go_wp2_with fail
            exact ⟨⟨j + 1, by omega, by go_num, HB3.out, .inr ⟨g, cap, by rw [HN.out], hcap, hg, HO3.out⟩⟩, by simp [intOf]; omega⟩
        · obtain rfl : j = k := by omega
          rw [hall] at hv
          have hgiv : ∃ A c, u6 = .slice A (lenP l) c ∧ SlAt wr A (bytesC (catP l)) ∧ lenP l ≤ c ∧ FreshT w.heap.size (bytesC (catP l)) (lenP l) (.slice A (lenP l) c) wr := by
            rcases hv with ⟨hz, rfl⟩ | ⟨g, cap, rfl, hcap, hg, hown⟩
            · have hc0 : catP l = [] := List.eq_nil_of_length_eq_zero (by rw [catP_len]; exact hz)
              rw [hz, hc0]
              exact ⟨none, 0, rfl, .inl rfl, Nat.le_refl _, givesT_of_owns (World.ownsRow_nil wr w.heap.size 5 1)⟩
            · obtain ⟨A, c, hv, h1, h2, h3⟩ := slice_of_owns hown
              rw [hv] at h3
              exact ⟨A, c, hv, h1, h2, h3⟩
          obtain ⟨A, c, rfl, hs, hc, hT⟩ := hgiv
          have HS := Lib.hid hs
          clear hs hv
          go_wp2_with fail
          go_ret
          exact ⟨_, _, rfl, HS.out, hc, hb, hT⟩
end Go.Proofs.Ytojmifniidddpaa
