/- Joins of labels, and a list's label. -/
import Derived.Test.YtiglfbnicihpmaaSl
import Derived.OwnWalk
import Derived.Shelf.Abstract
import Derived.Deep.Onto
set_option linter.unusedVariables false
set_option linter.unusedSimpArgs false
namespace Go.Proofs.Ytiglfbnicihpmaa
open Go.RowKit

theorem join1_any (x y : Int) (w : World) :
    Calls Try.prog 70 #[.int .u64 x, .int .u64 y] w fun e w' => e = .returned (.int .u64 (bits .or .u64 x y)) ∧ w = w' := by
  go_enter Try.func70, Try.ntmps70
  go_wp2_with fail
  go_ret
  exact ⟨by simp, rfl⟩
theorem refJoin_any (x y : Int) (w : World) :
    Calls Try.prog 24 #[.int .u64 x, .int .u64 y] w fun e w' => e = .returned (.int .u64 (bits .or .u64 x y)) ∧ w = w' := by
  go_enter Try.func24, Try.ntmps24
  go_wp2_with fail
  go_ret
  exact ⟨by simp, rfl⟩
def U (x : Int) : Prop := 0 ≤ x ∧ x ≤ 18446744073709551615
def orI (x y : Int) : Int := bits .or .u64 x y
theorem orI_zero {x : Int} (h : U x) : orI 0 x = x := by
  obtain ⟨X, rfl⟩ := Int.eq_ofNat_of_zero_le h.1
  have := h.2
  unfold orI
  show IntKind.u64.wrap ((BitVec.ofInt 64 0 ||| BitVec.ofInt 64 (X : Int)).toNat : Int) = _
  rw [BitVec.ofInt_natCast]
  have e : (BitVec.ofInt 64 0 ||| BitVec.ofNat 64 X).toNat = X := by
    rw [BitVec.toNat_or, BitVec.toNat_ofNat]
    have : (BitVec.ofInt 64 0).toNat = 0 := by decide
    rw [this, Nat.zero_or]; simp only [Nat.reducePow]; omega
  rw [e, IntKind.wrap_u64]; omega
def labC (c : Int) : List Value := [.int .u64 c]
def labsC (l : List Int) : List Value := l.flatMap labC
theorem labsC_len (l : List Int) : (labsC l).length = l.length := by have := flat_len (f := labC) (n := 1) (fun _ => rfl) l; rw [Nat.mul_one] at this; exact this
theorem labsC_at {xs : List Int} {i j : Nat} {x : Int} {u : Value} (h : xs[i]? = some x) (hu : (labC x)[j]? = some u) : (labsC xs)[i + j]? = some u := by
  have hj : j < 1 := (List.getElem?_eq_some_iff.1 hu).1
  have := flat_at (f := labC) (n := 1) (fun _ => rfl) xs i x h j hj
  rw [Nat.mul_one] at this
  rw [labsC, this, hu]
theorem labsC_take {xs : List Int} {i : Nat} {x : Int} (h : xs[i]? = some x) : labsC (xs.take (i + 1)) = labsC (xs.take i) ++ labC x := flat_take h
def joinL (a : Int) (l : List Int) : Int := l.foldl orI a
def LabRel (a : Int) (xs : List Int) (w : World) (v i : Value) (wr : World) : Prop := ∃ k : Nat, k ≤ xs.length ∧ v = .int .u64 (joinL a (xs.take k)) ∧ i = .int .i64 k ∧ w = wr
set_option maxRecDepth 20000 in
theorem labFold_any (a : Int) (A : Option Addr) (xs : List Int) (cap : Nat) (w : World) (hxs : SlAt w A (labsC xs)) (hcap : xs.length ≤ cap) (hn : xs.length ≤ 100000) :
    Calls Try.prog 69 #[.int .u64 a, .func (.func 70) #[] #[], .slice A xs.length cap] w fun e w' => e = .returned (.int .u64 (joinL a xs)) ∧ w = w' := by
  have HX := Lib.hid hxs
  clear hxs
  generalize hln : xs.length = n at *
  go_enter Try.func69, Try.ntmps69
  go_wp2_with fail
  go_loopw [0, 11] (fun v i wr => LabRel a xs w v i wr) (fun _ i _ => n - (intOf i).toNat)
  case atStart => exact ⟨0, Nat.zero_le _, rfl, rfl, rfl⟩
  case round =>
    obtain ⟨k, hk, rfl, rfl, rfl⟩ := hrel
    by_cases hlt : k < n
    · obtain ⟨x, hx⟩ : ∃ x, xs[k]? = some x := ⟨xs[k], by simp [hln, hlt]⟩
      obtain ⟨b, off, rfl, hbl, hcell⟩ := HX.out.cell (labsC_at (j := 0) hx (by rfl))
      have hc := hcell (k + 0) _ (labsC_at (j := 0) hx (by rfl))
      rw [Nat.add_zero] at hc
      have hj : orI (joinL a (xs.take k)) x = joinL a (xs.take (k + 1)) := by rw [List.take_add_one, hx]; simp [joinL]
      have HJ := Lib.hid hj
      clear hcell hj
      go_wp2_with fail
      refine (join1_any _ _ _).mono ?_
      rintro e w2 ⟨rfl, rfl⟩
      go_wp2_with fail
      exact ⟨⟨k + 1, by omega, by rw [← HJ.out]; rfl, by go_num, rfl⟩, by simp [intOf]; omega⟩
    · obtain rfl : k = n := by omega
      rw [← hln, List.take_length]
      go_wp2_with fail
      go_ret
      exact ⟨rfl, rfl⟩
theorem joinL_any (A : Option Addr) (xs : List Int) (cap : Nat) (w : World) (hxs : SlAt w A (labsC xs)) (hcap : xs.length ≤ cap) (hn : xs.length ≤ 100000) :
    Calls Try.prog 59 #[.slice A xs.length cap] w fun e w' => e = .returned (.int .u64 (joinL 0 xs)) ∧ w = w' := by
  have HF := Lib.hid (labFold_any 0 A xs cap w hxs hcap hn)
  clear hxs
  go_enter Try.func59, Try.ntmps59
  go_wp2_with fail
  refine HF.out.mono ?_
  rintro e w2 ⟨rfl, rfl⟩
  go_wp2_with fail
  go_ret
  exact ⟨rfl, rfl⟩
def cellC (c : Int × Int) : List Value := [.int .u8 c.1, .int .u64 c.2]
def cellsC (l : List (Int × Int)) : List Value := l.flatMap cellC
theorem cellsC_len (l : List (Int × Int)) : (cellsC l).length = l.length * 2 := flat_len (f := cellC) (n := 2) (fun _ => rfl) l
theorem cellsC_at {xs : List (Int × Int)} {i j : Nat} {x : Int × Int} {u : Value} (h : xs[i]? = some x) (hu : (cellC x)[j]? = some u) : (cellsC xs)[i * 2 + j]? = some u := by
  have hj : j < 2 := (List.getElem?_eq_some_iff.1 hu).1
  rw [cellsC, flat_at (f := cellC) (n := 2) (fun _ => rfl) xs i x h j hj, hu]
theorem cellsC_take {xs : List (Int × Int)} {i : Nat} {x : Int × Int} (h : xs[i]? = some x) : cellsC (xs.take (i + 1)) = cellsC (xs.take i) ++ cellC x := flat_take h
theorem tinfo_cell : (Try.prog.info? 92).map (fun i => (i.zero, i.size, i.bytes)) = some (some (.agg #[.int .u8 0, .int .u64 0]), 2, 16) := by kernel_rfl
theorem tinfo_lab : (Try.prog.info? 25).map (fun i => (i.zero, i.size, i.bytes)) = some (some (.int .u64 0), 1, 8) := by kernel_rfl
theorem under_cells : Try.prog.underlying 90 = some (.slice 92) := by kernel_rfl
theorem under_labs : Try.prog.underlying 117 = some (.slice 25) := by kernel_rfl
theorem news_at (w : World) (c : Array Value) (t : TypeId) : ∀ j u, c.toList[j]? = some u → (w.alloc (.cells c t)).cell? ((⟨w.heap.size, 0, none⟩ : Addr).add j) = some u := fun j u h => by
  rw [Addr.add_lit, Nat.zero_add, World.cell?_alloc_at _ _ _ _ rfl]; simpa using h
def MadeRel (B e size n : Nat) (w : World) (out : Nat → List Value) (v i : Value) (wr : World) : Prop :=
  ∃ k : Nat, k ≤ n ∧ i = .int .i64 k ∧ wr.ownsRow B e size v k (out k) ∧ Below w.heap.size w wr
set_option maxRecDepth 20000 in
set_option maxHeartbeats 1000000 in
theorem madeCL_any (f : FuncId) (oc : Array Value) (g : Int × Int → Int) (A : Option Addr) (xs : List (Int × Int)) (cap : Nat) (w : World) (hxs : SlAt w A (cellsC xs)) (hcap : xs.length ≤ cap) (hn : xs.length ≤ 100000)
    (hent : Enters Try.prog f)
    (hf : ∀ x ∈ xs, ∀ (W : World), Below w.heap.size w W → Calls Try.prog f (#[.agg #[.int .u8 x.1, .int .u64 x.2]] ++ oc) W fun e w' => e = .returned (.int .u64 (g x)) ∧ Below W.heap.size W w') :
    Calls Try.prog 63 #[.slice A xs.length cap, .func (.func f) #[] oc] w
      fun e w' => ∃ v, e = .returned v ∧ w'.ownsRow w.heap.size 25 1 v xs.length (labsC (xs.map g)) ∧ Below w.heap.size w w' := by
  obtain ⟨i0, hi, hz0, hz1, hz2⟩ := info_parts tinfo_lab
  have HF := Lib.hid hf
  have HX := Lib.hid hxs
  clear hf hxs
  have hent' : ∀ (args : Array Value) (W : World), (callFunc f args).run Try.prog W = .ok (.enter f args) W := fun args W => hent args W
  clear hent
  generalize hln : xs.length = n at *
  go_enter Try.func63, Try.ntmps63
  go_wp2_with (first | (at_make; refine wpList_make_own _ rfl _ _ 117 rfl w.heap.size 25 i0 _ 1 under_labs hi hz0 hz1 _ _ _ n rfl rfl (by omega) (by rw [hz2]; omega) (by simp only [maxLen]; omega) (Nat.le_refl _) ?_))
  intro w1 hownS hgrow
  have hb1 : Below w.heap.size w w1 := (Below.refl _ _).grown hgrow (Nat.le_refl _) (fun k hk => by cases hk)
  clear hgrow
  go_wp2_with fail
  go_loopw [5, 13] (fun v i wr => MadeRel w.heap.size 25 1 n w (fun k => labsC ((xs.map g).take k)) v i wr) (fun _ i _ => n - (intOf i).toNat)
  case atStart => exact ⟨0, Nat.zero_le _, rfl, by simpa [labsC] using hownS, hb1⟩
  case round =>
    obtain ⟨k, hk, rfl, hown, hb⟩ := hrel
    by_cases hlt : k < n
    · obtain ⟨x, hx⟩ : ∃ x, xs[k]? = some x := ⟨xs[k], by simp [hln, hlt]⟩
      obtain ⟨b, off, rfl, hbl, hcell⟩ := HX.out.cell (cellsC_at (j := 0) hx (by rfl))
      have hc0 : wr.cell? ⟨b, off + k * 2, none⟩ = some (.int .u8 x.1) := (hb.cell (p := ⟨b, off + k * 2, none⟩) hbl).trans (by have := hcell (k * 2) _ (cellsC_at (j := 0) hx (by rfl)); simpa [Nat.add_assoc] using this)
      have hc1 : wr.cell? ⟨b, off + k * 2 + 1, none⟩ = some (.int .u64 x.2) := (hb.cell (p := ⟨b, off + k * 2 + 1, none⟩) hbl).trans (by have := hcell (k * 2 + 1) _ (cellsC_at (j := 1) hx (by rfl)); simpa [Nat.add_assoc] using this)
      have hm := List.mem_of_getElem? hx
      clear hcell
      go_wp2_with fail
      refine (HF.out x hm _ (by first | assumption | exact hb.alloc hb.size _)).mono ?_
      rintro e w2 ⟨rfl, hb2⟩
      have hown2 := owns_below (hown.alloc (.cells #[.int .u8 x.1, .int .u64 x.2] 92)) hb2
      have hbw : Below w.heap.size w w2 := (hb.alloc hb.size _).trans (hb2.mono (hb.alloc hb.size _).size)
      have hsz := hbw.size
      clear hb2 hb hc0 hc1 hown
      go_wp2_with (first | (at_builtin; refine wpList_append_own _ rfl _ _ 117 rfl w.heap.size 25 i0 _ 1 8 under_labs hi hz0 hz1 hz2 rfl (by decide) _ _ _ rfl (hown2.alloc _) ⟨w2.heap.size, 0, none⟩ 1 1 (labC (g x)) rfl rfl (news_at _ _ _) (by simp [labC, Value.oneCell']) (by simp only [maxLen]; omega) (by omega) (by simp; omega) ?_))
      intro v3 w3 hown3 hg3 _
      have hb3 : Below w.heap.size w w3 := below_grown (hbw.alloc hbw.size _) (hown2.alloc _) hg3 (by simp; omega) (Nat.le_refl _)
      have hown4 : w3.ownsRow w.heap.size 25 1 v3 (k + 1) (labsC ((xs.map g).take (k + 1))) := by
        rw [labsC_take (x := g x) (by simp [hx])]; exact hown3
      clear hown3 hg3 hbw hown2 hsz
      go_wp2_with fail
      exact ⟨⟨k + 1, by omega, by go_num, hown4, hb3⟩, by simp [intOf]; omega⟩
    · obtain rfl : k = n := by omega
      dsimp only at hown
      rw [List.take_of_length_le (by simp [hln])] at hown
      have HO := Lib.hid hown
      have HB := Lib.hid hb
      clear hown hb
      go_wp2_with fail
      go_ret
      exact ⟨_, rfl, HO.out, HB.out⟩
def GivesT (cs : List Value) (n : Nat) (v : Value) (T : List Block) : Prop := ∃ A c, v = .slice A n c ∧ n ≤ c ∧ ∀ w, Own T w → SlAt w A cs
theorem givesT_of_owns {w : World} {base : Nat} {e : TypeId} {size n : Nat} {v : Value} {xs : List Value} (h : w.ownsRow base e size v n xs) : ∃ T, GivesT xs n v T ∧ Own T w ∧ ∀ p, p ∈ T → base ≤ p.1 := by
  rcases h.2 with ⟨hv, hn⟩ | ⟨g, cap', cur, hv, hbg, hh, hnc, hcm, hcs, htake⟩
  · subst hv; subst hn
    refine ⟨[], ⟨_, _, rfl, Nat.le_refl _, fun w _ => .inl (List.eq_nil_of_length_eq_zero (by simpa using h.1))⟩, fun p hp => (by simp at hp), fun p hp => (by simp at hp)⟩
  · subst hv
    refine ⟨[(g, cur, e)], ⟨_, _, rfl, hnc, fun w hw => ?_⟩, (fun p hp => by simp at hp; subst hp; exact hh), fun p hp => by simp at hp; subst hp; exact hbg⟩
    have hb : Blk w g cur e := hw.get 0 rfl
    refine .inr ⟨g, 0, rfl, hb.lt, fun j u hu => ?_⟩
    rw [Nat.zero_add, hb.cell]
    have hj : j < n * size := by rw [← h.1]; exact (List.getElem?_eq_some_iff.1 hu).1
    rw [← htake, List.getElem?_take, if_pos hj] at hu
    simpa using hu
def FreshT (base : Nat) (cs : List Value) (n : Nat) (v : Value) (w : World) : Prop := ∃ T, GivesT cs n v T ∧ Own T w ∧ ∀ p, p ∈ T → base ≤ p.1
theorem FreshT.mono {base base' : Nat} {cs : List Value} {n : Nat} {v : Value} {w : World} (h : FreshT base cs n v w) (hb : base' ≤ base) : FreshT base' cs n v w := by
  obtain ⟨T, h1, h2, h3⟩ := h
  exact ⟨T, h1, h2, fun p hp => Nat.le_trans hb (h3 p hp)⟩
theorem slice_of_owns {w : World} {base : Nat} {e : TypeId} {size n : Nat} {v : Value} {xs : List Value} (h : w.ownsRow base e size v n xs) : ∃ A c, v = .slice A n c ∧ SlAt w A xs ∧ n ≤ c ∧ FreshT base xs n v w := by
  rcases h.2 with ⟨hv, hn⟩ | ⟨g, cap', cur, hv, hbg, hh, hnc, hcm, hcs, htake⟩
  · subst hv; subst hn
    exact ⟨_, _, rfl, SlAt.of_owns h, Nat.le_refl _, givesT_of_owns h⟩
  · subst hv
    exact ⟨_, _, rfl, SlAt.of_owns h, hnc, givesT_of_owns h⟩
theorem label1_any (x a : Int) (w : World) :
    Calls Try.prog 64 #[.agg #[.int .u8 x, .int .u64 a]] w fun e w' => e = .returned (.int .u64 a) ∧ Below w.heap.size w w' := by
  go_enter Try.func64, Try.ntmps64
  go_wp2_with fail
  go_ret
  exact ⟨rfl, by go_grown⟩
theorem clabel_any (A : Option Addr) (xs : List (Int × Int)) (cap : Nat) (w : World) (hxs : SlAt w A (cellsC xs)) (hcap : xs.length ≤ cap) (hn : xs.length ≤ 100000) :
    Calls Try.prog 55 #[.slice A xs.length cap] w fun e w' => e = .returned (.int .u64 (joinL 0 (xs.map Prod.snd))) ∧ Below w.heap.size w w' := by
  have HF := Lib.hid (madeCL_any 64 #[] (fun x => x.2) A xs cap w hxs hcap hn (enters_of Try.func64 (by kernel_rfl) rfl) (fun x _ V hV => label1_any x.1 x.2 V))
  clear hxs
  have hl : (xs.map Prod.snd).length = xs.length := by simp
  generalize xs.length = n at *
  go_enter Try.func55, Try.ntmps55
  go_wp2_with fail
  refine HF.out.mono ?_
  rintro e w2 ⟨v, rfl, hown, hb⟩
  obtain ⟨A', c', rfl, hs, hc, hT⟩ := slice_of_owns hown
  have HJ := Lib.hid (joinL_any A' (xs.map Prod.snd) c' w2 hs (by omega) (by omega))
  rw [hl] at HJ
  clear hown hs
  go_wp2_with fail
  refine HJ.out.mono ?_
  rintro e w3 ⟨rfl, rfl⟩
  go_wp2_with fail
  go_ret
  exact ⟨rfl, hb⟩
theorem label_any (A : Option Addr) (xs : List (Int × Int)) (cap : Nat) (w : World) (hxs : SlAt w A (cellsC xs)) (hcap : xs.length ≤ cap) (hn : xs.length ≤ 100000) :
    Calls Try.prog 46 #[.slice A xs.length cap] w fun e w' => e = .returned (.int .u64 (joinL 0 (xs.map Prod.snd))) ∧ Below w.heap.size w w' := by
  have HF := Lib.hid (clabel_any A xs cap w hxs hcap hn)
  clear hxs
  have hfl : ∀ W : World, (Instr.field 108 (.agg #[.slice A xs.length cap]) 0).run Try.prog W = .ok (.slice A xs.length cap) W := fun _ => by kernel_rfl
  generalize xs.length = n at *
  go_enter Try.func46, Try.ntmps46
  go_wp2_with fail
  refine HF.out.mono ?_
  rintro e w3 ⟨rfl, hb⟩
  go_wp2_with fail
  go_ret
  exact ⟨rfl, hb⟩
end Go.Proofs.Ytiglfbnicihpmaa
