/- Walks of package tag: lists that are made one by one. -/
import Derived.Test.YtknkepokkenokaaLab
set_option linter.unusedVariables false
set_option linter.unusedSimpArgs false
namespace Go.Proofs.Ytknkepokkenokaa
open Go.RowKit

/-- A cell's value, and its cells. -/
def cellV (c : Int × Int) : Value := .agg #[.int .u8 c.1, .int .u64 c.2]
def cellC (c : Int × Int) : List Value := [.int .u8 c.1, .int .u64 c.2]
def byteC (c : Int) : List Value := [.int .u8 c]
def cellsC (l : List (Int × Int)) : List Value := l.flatMap cellC
def bytesC (l : List Int) : List Value := l.flatMap byteC
theorem cellsC_len (l : List (Int × Int)) : (cellsC l).length = l.length * 2 := flat_len (f := cellC) (n := 2) (fun _ => rfl) l
theorem bytesC_len (l : List Int) : (bytesC l).length = l.length := by have := flat_len (f := byteC) (n := 1) (fun _ => rfl) l; rw [Nat.mul_one] at this; exact this
theorem cellsC_at {xs : List (Int × Int)} {i j : Nat} {x : Int × Int} {u : Value} (h : xs[i]? = some x) (hu : (cellC x)[j]? = some u) : (cellsC xs)[i * 2 + j]? = some u := by
  have hj : j < 2 := (List.getElem?_eq_some_iff.1 hu).1
  rw [cellsC, flat_at (f := cellC) (n := 2) (fun _ => rfl) xs i x h j hj, hu]
theorem bytesC_at {xs : List Int} {i j : Nat} {x : Int} {u : Value} (h : xs[i]? = some x) (hu : (byteC x)[j]? = some u) : (bytesC xs)[i + j]? = some u := by
  have hj : j < 1 := (List.getElem?_eq_some_iff.1 hu).1
  have := flat_at (f := byteC) (n := 1) (fun _ => rfl) xs i x h j hj
  rw [Nat.mul_one] at this
  rw [bytesC, this, hu]
theorem cellsC_take {xs : List (Int × Int)} {i : Nat} {x : Int × Int} (h : xs[i]? = some x) : cellsC (xs.take (i + 1)) = cellsC (xs.take i) ++ cellC x := flat_take h
theorem bytesC_take {xs : List Int} {i : Nat} {x : Int} (h : xs[i]? = some x) : bytesC (xs.take (i + 1)) = bytesC (xs.take i) ++ byteC x := flat_take h

theorem tinfo_cell : (Try.prog.info? 55).map (fun i => (i.zero, i.size, i.bytes)) = some (some (.agg #[.int .u8 0, .int .u64 0]), 2, 16) := by kernel_rfl
theorem tinfo_byte : (Try.prog.info? 5).map (fun i => (i.zero, i.size, i.bytes)) = some (some (.int .u8 0), 1, 1) := by kernel_rfl
theorem tinfo_lab : (Try.prog.info? 35).map (fun i => (i.zero, i.size, i.bytes)) = some (some (.int .u64 0), 1, 8) := by kernel_rfl
theorem under_cells : Try.prog.underlying 22 = some (.slice 55) := by kernel_rfl
theorem under_bytes : Try.prog.underlying 31 = some (.slice 5) := by kernel_rfl
theorem under_labs : Try.prog.underlying 86 = some (.slice 35) := by kernel_rfl
theorem news_at (w : World) (c : Array Value) (t : TypeId) : ∀ j u, c.toList[j]? = some u → (w.alloc (.cells c t)).cell? ((⟨w.heap.size, 0, none⟩ : Addr).add j) = some u := fun j u h => by
  rw [Addr.add_lit, Nat.zero_add, World.cell?_alloc_at _ _ _ _ rfl]; simpa using h
/-- What holds at the head of a round. -/
def MadeRel (B e size n : Nat) (w : World) (out : Nat → List Value) (v i : Value) (wr : World) : Prop :=
  ∃ k : Nat, k ≤ n ∧ i = .int .i64 k ∧ wr.ownsRow B e size v k (out k) ∧ Below w.heap.size w wr

set_option maxRecDepth 20000 in
set_option maxHeartbeats 1000000 in
theorem madeBC_any (f : FuncId) (oc : Array Value) (g : Int → Int × Int) (A : Option Addr) (xs : List (Int)) (cap : Nat) (w : World) (hxs : SlAt w A (bytesC xs)) (hcap : xs.length ≤ cap) (hn : xs.length ≤ 100000)
    (hent : Enters Try.prog f)
    (hf : ∀ x ∈ xs, ∀ (W : World), Below w.heap.size w W → Calls Try.prog f (#[.int .u8 x] ++ oc) W fun e w' => e = .returned (.agg #[.int .u8 (g x).1, .int .u64 (g x).2]) ∧ Below W.heap.size W w') :
    Calls Try.prog 32 #[.slice A xs.length cap, .func (.func f) #[] oc] w
      fun e w' => ∃ v, e = .returned v ∧ w'.ownsRow w.heap.size 55 2 v xs.length (cellsC (xs.map g)) ∧ Below w.heap.size w w' := by
  obtain ⟨i0, hi, hz0, hz1, hz2⟩ := info_parts tinfo_cell
  have HF := Lib.hid hf
  have HX := Lib.hid hxs
  clear hf hxs
  have hent' : ∀ (args : Array Value) (W : World), (callFunc f args).run Try.prog W = .ok (.enter f args) W := fun args W => hent args W
  clear hent
  generalize hln : xs.length = n at *
  go_enter Try.func32, Try.ntmps32
  go_wp2_with (first | (at_make; refine wpList_make_own _ rfl _ _ 22 rfl w.heap.size 55 i0 _ 2 under_cells hi hz0 hz1 _ _ _ n rfl rfl (by omega) (by rw [hz2]; omega) (by simp only [maxLen]; omega) (Nat.le_refl _) ?_))
  intro w1 hownS hgrow
  have hb1 : Below w.heap.size w w1 := (Below.refl _ _).grown hgrow (Nat.le_refl _) (fun k hk => by cases hk)
  clear hgrow
  go_wp2_with fail
  go_loopw [5, 13] (fun v i wr => MadeRel w.heap.size 55 2 n w (fun k => cellsC ((xs.map g).take k)) v i wr) (fun _ i _ => n - (intOf i).toNat)
  case atStart => exact ⟨0, Nat.zero_le _, rfl, by simpa [cellsC] using hownS, hb1⟩
  case round =>
    obtain ⟨k, hk, rfl, hown, hb⟩ := hrel
    by_cases hlt : k < n
    · obtain ⟨x, hx⟩ : ∃ x, xs[k]? = some x := ⟨xs[k], by simp [hln, hlt]⟩
      obtain ⟨b, off, rfl, hbl, hcell⟩ := HX.out.cell (bytesC_at (j := 0) hx (by rfl))
      have hc0 : wr.cell? ⟨b, off + k, none⟩ = some (.int .u8 x) := (hb.cell (p := ⟨b, off + k, none⟩) hbl).trans (by have := hcell (k) _ (bytesC_at (j := 0) hx (by rfl)); simpa [Nat.add_assoc] using this)
      have hm := List.mem_of_getElem? hx
      clear hcell
      go_wp2_with fail
      refine (HF.out x hm _ (by first | assumption | exact hb.alloc hb.size _)).mono ?_
      rintro e w2 ⟨rfl, hb2⟩
      have hown2 := owns_below hown hb2
      have hbw : Below w.heap.size w w2 := hb.trans (hb2.mono hb.size)
      have hsz := hbw.size
      clear hb2 hb hc0 hown
      go_wp2_with (first | (at_builtin; refine wpList_append_own _ rfl _ _ 22 rfl w.heap.size 55 i0 _ 2 16 under_cells hi hz0 hz1 hz2 rfl (by decide) _ _ _ rfl (hown2.alloc _) ⟨w2.heap.size, 0, none⟩ 1 1 (cellC (g x)) rfl rfl (news_at _ _ _) (by simp [cellC, Value.oneCell']) (by simp only [maxLen]; omega) (by omega) (by simp; omega) ?_))
      intro v3 w3 hown3 hg3 _
      have hb3 : Below w.heap.size w w3 := below_grown (hbw.alloc hbw.size _) (hown2.alloc _) hg3 (by simp; omega) (Nat.le_refl _)
      have hown4 : w3.ownsRow w.heap.size 55 2 v3 (k + 1) (cellsC ((xs.map g).take (k + 1))) := by
        rw [cellsC_take (x := g x) (by simp [hx])]; exact hown3
      clear hown3 hg3 hbw hown2 hsz
      go_wp2_with fail
      exact ⟨⟨k + 1, by omega, by go_num, hown4, hb3⟩, by simp [intOf]; omega⟩
    · obtain rfl : k = n := by omega
      dsimp only at hown
      rw [List.take_of_length_le (by simp [hln])] at hown
      have HO := Lib.hid hown
      have HB := Lib.hid hb
      clear hown hb
      go_wp2_with fail
      go_ret
      exact ⟨_, rfl, HO.out, HB.out⟩
set_option maxRecDepth 20000 in
set_option maxHeartbeats 1000000 in
theorem madeCB_any (f : FuncId) (oc : Array Value) (g : Int × Int → Int) (A : Option Addr) (xs : List (Int × Int)) (cap : Nat) (w : World) (hxs : SlAt w A (cellsC xs)) (hcap : xs.length ≤ cap) (hn : xs.length ≤ 100000)
    (hent : Enters Try.prog f)
    (hf : ∀ x ∈ xs, ∀ (W : World), Below w.heap.size w W → Calls Try.prog f (#[.agg #[.int .u8 x.1, .int .u64 x.2]] ++ oc) W fun e w' => e = .returned (.int .u8 (g x)) ∧ Below W.heap.size W w') :
    Calls Try.prog 34 #[.slice A xs.length cap, .func (.func f) #[] oc] w
      fun e w' => ∃ v, e = .returned v ∧ w'.ownsRow w.heap.size 5 1 v xs.length (bytesC (xs.map g)) ∧ Below w.heap.size w w' := by
  obtain ⟨i0, hi, hz0, hz1, hz2⟩ := info_parts tinfo_byte
  have HF := Lib.hid hf
  have HX := Lib.hid hxs
  clear hf hxs
  have hent' : ∀ (args : Array Value) (W : World), (callFunc f args).run Try.prog W = .ok (.enter f args) W := fun args W => hent args W
  clear hent
  generalize hln : xs.length = n at *
  go_enter Try.func34, Try.ntmps34
  go_wp2_with (first | (at_make; refine wpList_make_own _ rfl _ _ 31 rfl w.heap.size 5 i0 _ 1 under_bytes hi hz0 hz1 _ _ _ n rfl rfl (by omega) (by rw [hz2]; omega) (by simp only [maxLen]; omega) (Nat.le_refl _) ?_))
  intro w1 hownS hgrow
  have hb1 : Below w.heap.size w w1 := (Below.refl _ _).grown hgrow (Nat.le_refl _) (fun k hk => by cases hk)
  clear hgrow
  go_wp2_with fail
  go_loopw [5, 13] (fun v i wr => MadeRel w.heap.size 5 1 n w (fun k => bytesC ((xs.map g).take k)) v i wr) (fun _ i _ => n - (intOf i).toNat)
  case atStart => exact ⟨0, Nat.zero_le _, rfl, by simpa [bytesC] using hownS, hb1⟩
  case round =>
    obtain ⟨k, hk, rfl, hown, hb⟩ := hrel
    by_cases hlt : k < n
    · obtain ⟨x, hx⟩ : ∃ x, xs[k]? = some x := ⟨xs[k], by simp [hln, hlt]⟩
      obtain ⟨b, off, rfl, hbl, hcell⟩ := HX.out.cell (cellsC_at (j := 0) hx (by rfl))
      have hc0 : wr.cell? ⟨b, off + k * 2, none⟩ = some (.int .u8 x.1) := (hb.cell (p := ⟨b, off + k * 2, none⟩) hbl).trans (by have := hcell (k * 2) _ (cellsC_at (j := 0) hx (by rfl)); simpa [Nat.add_assoc] using this)
      have hc1 : wr.cell? ⟨b, off + k * 2 + 1, none⟩ = some (.int .u64 x.2) := (hb.cell (p := ⟨b, off + k * 2 + 1, none⟩) hbl).trans (by have := hcell (k * 2 + 1) _ (cellsC_at (j := 1) hx (by rfl)); simpa [Nat.add_assoc] using this)
      have hm := List.mem_of_getElem? hx
      clear hcell
      go_wp2_with fail
      refine (HF.out x hm _ (by first | assumption | exact hb.alloc hb.size _)).mono ?_
      rintro e w2 ⟨rfl, hb2⟩
      have hown2 := owns_below (hown.alloc (.cells #[.int .u8 x.1, .int .u64 x.2] 55)) hb2
      have hbw : Below w.heap.size w w2 := (hb.alloc hb.size _).trans (hb2.mono (hb.alloc hb.size _).size)
      have hsz := hbw.size
      clear hb2 hb hc0 hc1 hown
      go_wp2_with (first | (at_builtin; refine wpList_append_own _ rfl _ _ 31 rfl w.heap.size 5 i0 _ 1 1 under_bytes hi hz0 hz1 hz2 rfl (by decide) _ _ _ rfl (hown2.alloc _) ⟨w2.heap.size, 0, none⟩ 1 1 (byteC (g x)) rfl rfl (news_at _ _ _) (by simp [byteC, Value.oneCell']) (by simp only [maxLen]; omega) (by omega) (by simp; omega) ?_))
      intro v3 w3 hown3 hg3 _
      have hb3 : Below w.heap.size w w3 := below_grown (hbw.alloc hbw.size _) (hown2.alloc _) hg3 (by simp; omega) (Nat.le_refl _)
      have hown4 : w3.ownsRow w.heap.size 5 1 v3 (k + 1) (bytesC ((xs.map g).take (k + 1))) := by
        rw [bytesC_take (x := g x) (by simp [hx])]; exact hown3
      clear hown3 hg3 hbw hown2 hsz
      go_wp2_with fail
      exact ⟨⟨k + 1, by omega, by go_num, hown4, hb3⟩, by simp [intOf]; omega⟩
    · obtain rfl : k = n := by omega
      dsimp only at hown
      rw [List.take_of_length_le (by simp [hln])] at hown
      have HO := Lib.hid hown
      have HB := Lib.hid hb
      clear hown hb
      go_wp2_with fail
      go_ret
      exact ⟨_, rfl, HO.out, HB.out⟩
set_option maxRecDepth 20000 in
set_option maxHeartbeats 1000000 in
theorem madeCC_any (f : FuncId) (oc : Array Value) (g : Int × Int → Int × Int) (A : Option Addr) (xs : List (Int × Int)) (cap : Nat) (w : World) (hxs : SlAt w A (cellsC xs)) (hcap : xs.length ≤ cap) (hn : xs.length ≤ 100000)
    (hent : Enters Try.prog f)
    (hf : ∀ x ∈ xs, ∀ (W : World), Below w.heap.size w W → Calls Try.prog f (#[.agg #[.int .u8 x.1, .int .u64 x.2]] ++ oc) W fun e w' => e = .returned (.agg #[.int .u8 (g x).1, .int .u64 (g x).2]) ∧ Below W.heap.size W w') :
    Calls Try.prog 38 #[.slice A xs.length cap, .func (.func f) #[] oc] w
      fun e w' => ∃ v, e = .returned v ∧ w'.ownsRow w.heap.size 55 2 v xs.length (cellsC (xs.map g)) ∧ Below w.heap.size w w' := by
  obtain ⟨i0, hi, hz0, hz1, hz2⟩ := info_parts tinfo_cell
  have HF := Lib.hid hf
  have HX := Lib.hid hxs
  clear hf hxs
  have hent' : ∀ (args : Array Value) (W : World), (callFunc f args).run Try.prog W = .ok (.enter f args) W := fun args W => hent args W
  clear hent
  generalize hln : xs.length = n at *
  go_enter Try.func38, Try.ntmps38
  go_wp2_with (first | (at_make; refine wpList_make_own _ rfl _ _ 22 rfl w.heap.size 55 i0 _ 2 under_cells hi hz0 hz1 _ _ _ n rfl rfl (by omega) (by rw [hz2]; omega) (by simp only [maxLen]; omega) (Nat.le_refl _) ?_))
  intro w1 hownS hgrow
  have hb1 : Below w.heap.size w w1 := (Below.refl _ _).grown hgrow (Nat.le_refl _) (fun k hk => by cases hk)
  clear hgrow
  go_wp2_with fail
  go_loopw [5, 13] (fun v i wr => MadeRel w.heap.size 55 2 n w (fun k => cellsC ((xs.map g).take k)) v i wr) (fun _ i _ => n - (intOf i).toNat)
  case atStart => exact ⟨0, Nat.zero_le _, rfl, by simpa [cellsC] using hownS, hb1⟩
  case round =>
    obtain ⟨k, hk, rfl, hown, hb⟩ := hrel
    by_cases hlt : k < n
    · obtain ⟨x, hx⟩ : ∃ x, xs[k]? = some x := ⟨xs[k], by simp [hln, hlt]⟩
      obtain ⟨b, off, rfl, hbl, hcell⟩ := HX.out.cell (cellsC_at (j := 0) hx (by rfl))
      have hc0 : wr.cell? ⟨b, off + k * 2, none⟩ = some (.int .u8 x.1) := (hb.cell (p := ⟨b, off + k * 2, none⟩) hbl).trans (by have := hcell (k * 2) _ (cellsC_at (j := 0) hx (by rfl)); simpa [Nat.add_assoc] using this)
      have hc1 : wr.cell? ⟨b, off + k * 2 + 1, none⟩ = some (.int .u64 x.2) := (hb.cell (p := ⟨b, off + k * 2 + 1, none⟩) hbl).trans (by have := hcell (k * 2 + 1) _ (cellsC_at (j := 1) hx (by rfl)); simpa [Nat.add_assoc] using this)
      have hm := List.mem_of_getElem? hx
      clear hcell
      go_wp2_with fail
      refine (HF.out x hm _ (by first | assumption | exact hb.alloc hb.size _)).mono ?_
      rintro e w2 ⟨rfl, hb2⟩
      have hown2 := owns_below (hown.alloc (.cells #[.int .u8 x.1, .int .u64 x.2] 55)) hb2
      have hbw : Below w.heap.size w w2 := (hb.alloc hb.size _).trans (hb2.mono (hb.alloc hb.size _).size)
      have hsz := hbw.size
      clear hb2 hb hc0 hc1 hown
      go_wp2_with (first | (at_builtin; refine wpList_append_own _ rfl _ _ 22 rfl w.heap.size 55 i0 _ 2 16 under_cells hi hz0 hz1 hz2 rfl (by decide) _ _ _ rfl (hown2.alloc _) ⟨w2.heap.size, 0, none⟩ 1 1 (cellC (g x)) rfl rfl (news_at _ _ _) (by simp [cellC, Value.oneCell']) (by simp only [maxLen]; omega) (by omega) (by simp; omega) ?_))
      intro v3 w3 hown3 hg3 _
      have hb3 : Below w.heap.size w w3 := below_grown (hbw.alloc hbw.size _) (hown2.alloc _) hg3 (by simp; omega) (Nat.le_refl _)
      have hown4 : w3.ownsRow w.heap.size 55 2 v3 (k + 1) (cellsC ((xs.map g).take (k + 1))) := by
        rw [cellsC_take (x := g x) (by simp [hx])]; exact hown3
      clear hown3 hg3 hbw hown2 hsz
      go_wp2_with fail
      exact ⟨⟨k + 1, by omega, by go_num, hown4, hb3⟩, by simp [intOf]; omega⟩
    · obtain rfl : k = n := by omega
      dsimp only at hown
      rw [List.take_of_length_le (by simp [hln])] at hown
      have HO := Lib.hid hown
      have HB := Lib.hid hb
      clear hown hb
      go_wp2_with fail
      go_ret
      exact ⟨_, rfl, HO.out, HB.out⟩
set_option maxRecDepth 20000 in
set_option maxHeartbeats 1000000 in
theorem madeCL_any (f : FuncId) (oc : Array Value) (g : Int × Int → Int) (A : Option Addr) (xs : List (Int × Int)) (cap : Nat) (w : World) (hxs : SlAt w A (cellsC xs)) (hcap : xs.length ≤ cap) (hn : xs.length ≤ 100000)
    (hent : Enters Try.prog f)
    (hf : ∀ x ∈ xs, ∀ (W : World), Below w.heap.size w W → Calls Try.prog f (#[.agg #[.int .u8 x.1, .int .u64 x.2]] ++ oc) W fun e w' => e = .returned (.int .u64 (g x)) ∧ Below W.heap.size W w') :
    Calls Try.prog 52 #[.slice A xs.length cap, .func (.func f) #[] oc] w
      fun e w' => ∃ v, e = .returned v ∧ w'.ownsRow w.heap.size 35 1 v xs.length (labsC (xs.map g)) ∧ Below w.heap.size w w' := by
  obtain ⟨i0, hi, hz0, hz1, hz2⟩ := info_parts tinfo_lab
  have HF := Lib.hid hf
  have HX := Lib.hid hxs
  clear hf hxs
  have hent' : ∀ (args : Array Value) (W : World), (callFunc f args).run Try.prog W = .ok (.enter f args) W := fun args W => hent args W
  clear hent
  generalize hln : xs.length = n at *
  go_enter Try.func52, Try.ntmps52
  go_wp2_with (first | (at_make; refine wpList_make_own _ rfl _ _ 86 rfl w.heap.size 35 i0 _ 1 under_labs hi hz0 hz1 _ _ _ n rfl rfl (by omega) (by rw [hz2]; omega) (by simp only [maxLen]; omega) (Nat.le_refl _) ?_))
  intro w1 hownS hgrow
  have hb1 : Below w.heap.size w w1 := (Below.refl _ _).grown hgrow (Nat.le_refl _) (fun k hk => by cases hk)
  clear hgrow
  go_wp2_with fail
  go_loopw [5, 13] (fun v i wr => MadeRel w.heap.size 35 1 n w (fun k => labsC ((xs.map g).take k)) v i wr) (fun _ i _ => n - (intOf i).toNat)
  case atStart => exact ⟨0, Nat.zero_le _, rfl, by simpa [labsC] using hownS, hb1⟩
  case round =>
    obtain ⟨k, hk, rfl, hown, hb⟩ := hrel
    by_cases hlt : k < n
    · obtain ⟨x, hx⟩ : ∃ x, xs[k]? = some x := ⟨xs[k], by simp [hln, hlt]⟩
      obtain ⟨b, off, rfl, hbl, hcell⟩ := HX.out.cell (cellsC_at (j := 0) hx (by rfl))
      have hc0 : wr.cell? ⟨b, off + k * 2, none⟩ = some (.int .u8 x.1) := (hb.cell (p := ⟨b, off + k * 2, none⟩) hbl).trans (by have := hcell (k * 2) _ (cellsC_at (j := 0) hx (by rfl)); simpa [Nat.add_assoc] using this)
      have hc1 : wr.cell? ⟨b, off + k * 2 + 1, none⟩ = some (.int .u64 x.2) := (hb.cell (p := ⟨b, off + k * 2 + 1, none⟩) hbl).trans (by have := hcell (k * 2 + 1) _ (cellsC_at (j := 1) hx (by rfl)); simpa [Nat.add_assoc] using this)
      have hm := List.mem_of_getElem? hx
      clear hcell
      go_wp2_with fail
      refine (HF.out x hm _ (by first | assumption | exact hb.alloc hb.size _)).mono ?_
      rintro e w2 ⟨rfl, hb2⟩
      have hown2 := owns_below (hown.alloc (.cells #[.int .u8 x.1, .int .u64 x.2] 55)) hb2
      have hbw : Below w.heap.size w w2 := (hb.alloc hb.size _).trans (hb2.mono (hb.alloc hb.size _).size)
      have hsz := hbw.size
      clear hb2 hb hc0 hc1 hown
      go_wp2_with (first | (at_builtin; refine wpList_append_own _ rfl _ _ 86 rfl w.heap.size 35 i0 _ 1 8 under_labs hi hz0 hz1 hz2 rfl (by decide) _ _ _ rfl (hown2.alloc _) ⟨w2.heap.size, 0, none⟩ 1 1 (labC (g x)) rfl rfl (news_at _ _ _) (by simp [labC, Value.oneCell']) (by simp only [maxLen]; omega) (by omega) (by simp; omega) ?_))
      intro v3 w3 hown3 hg3 _
      have hb3 : Below w.heap.size w w3 := below_grown (hbw.alloc hbw.size _) (hown2.alloc _) hg3 (by simp; omega) (Nat.le_refl _)
      have hown4 : w3.ownsRow w.heap.size 35 1 v3 (k + 1) (labsC ((xs.map g).take (k + 1))) := by
        rw [labsC_take (x := g x) (by simp [hx])]; exact hown3
      clear hown3 hg3 hbw hown2 hsz
      go_wp2_with fail
      exact ⟨⟨k + 1, by omega, by go_num, hown4, hb3⟩, by simp [intOf]; omega⟩
    · obtain rfl : k = n := by omega
      dsimp only at hown
      rw [List.take_of_length_le (by simp [hln])] at hown
      have HO := Lib.hid hown
      have HB := Lib.hid hb
      clear hown hb
      go_wp2_with fail
      go_ret
      exact ⟨_, rfl, HO.out, HB.out⟩
end Go.Proofs.Ytknkepokkenokaa
