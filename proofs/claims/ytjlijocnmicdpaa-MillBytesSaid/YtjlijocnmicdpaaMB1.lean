/- Merged texts: RwY MbA Cat MbB EyX MbT MbC. No condition. -/
import Derived.Test.YtjlijocnmicdpaaEyO
import Derived.Test.YtjlijocnmicdpaaEyU
import Derived.Test.YtjlijocnmicdpaaBkB
import Derived.Test.YtjlijocnmicdpaaByt
set_option linter.unusedVariables false
set_option linter.unusedSimpArgs false
set_option maxRecDepth 100000
set_option maxRecDepth 20000
namespace Go.Proofs.Ytjlijocnmicdpaa
open Go.RowKit

section
def rowY (A : Option Addr) (xs : List (BitVec 8)) : RowI := ⟨A, xs.length, 1, fun i => [.bv .u8 (xs.getD i.toNat 0#8)], fun i => [.int .u8 ((xs.getD i 0#8).toNat : Int)], []⟩
def natY (xs : List (BitVec 8)) : List Int := xs.map fun x => (x.toNat : Int)
abbrev u8Y (xs : List Int) : List Value := xs.map (Value.int .u8)
theorem natY_at {xs : List (BitVec 8)} {i : Nat} (h : i < xs.length) : (u8Y (natY xs))[i]? = some (.int .u8 ((xs.getD i 0#8).toNat : Int)) := by
  simp [natY, List.getD_eq_getElem?_getD, h]
theorem rowY_rw {A : Option Addr} {xs : List (BitVec 8)} (hA : 0 < xs.length → ∃ b off, A = some ⟨b, off, none⟩) : RwOK (rows1 (rowY A xs)) := by
  refine ⟨fun j r hj i hi => ?_, fun j r hj i hi => ?_, fun j r hj i hi v hv => ?_, fun j r hj h0 => ?_, fun j r hj a j' ha => ?_⟩
  · obtain ⟨_, rfl⟩ := rows1_inv hj
    show AV.vals? [.bv .u8 (xs.getD ((i : Nat) : Int).toNat 0#8)] = some [.int .u8 ((xs.getD i 0#8).toNat : Int)]
    rw [Int.toNat_natCast]; rfl
  · obtain ⟨_, rfl⟩ := rows1_inv hj; rfl
  · obtain ⟨_, rfl⟩ := rows1_inv hj
    simp only [rowY, List.mem_cons, List.not_mem_nil, or_false] at hv
    subst hv; rfl
  · obtain ⟨_, rfl⟩ := rows1_inv hj; exact hA h0
  · obtain ⟨_, rfl⟩ := rows1_inv hj; cases ha
theorem rel_rowY {A : Option Addr} {xs : List (BitVec 8)} {ρ : Nums} {n c : Nat} {V : Value} (h : Rel (rows1 (rowY A xs)) ρ (.rsl 0 n c) V) : V = .slice A xs.length c := by
  cases h with | rsl hj hle =>
  cases hj
  rfl
theorem rowY_rd {A : Option Addr} {xs : List (BitVec 8)} {w : World} (hS : SlAt w A (u8Y (natY xs))) : (0 < xs.length → ∃ b off, A = some ⟨b, off, none⟩) ∧ Rd (rows1 (rowY A xs)) [] w := by
  rcases hS with h | ⟨b, off, rfl, hb, hc⟩
  · have : xs = [] := by cases xs with
      | nil => rfl
      | cons x r => simp [natY] at h
    subst this
    exact ⟨fun h => absurd h (by simp), fun j r hj b off hA h0 => by obtain ⟨_, rfl⟩ := rows1_inv hj; exact absurd h0 (by simp [rowY])⟩
  · refine ⟨fun _ => ⟨b, off, rfl⟩, fun j r hj b' off' hA h0 => ?_⟩
    obtain ⟨_, rfl⟩ := rows1_inv hj
    have hA : some (⟨b, off, none⟩ : Addr) = some ⟨b', off', none⟩ := hA
    cases hA
    refine ⟨by simp, hb, fun i hi q u hu => ?_⟩
    have hi : i < xs.length := hi
    have hq : q < 1 := (List.getElem?_eq_some_iff.1 hu).1
    obtain rfl : q = 0 := by omega
    have h2 := hc i u ((natY_at hi).trans hu)
    show w.cell? ⟨b, off + i * 1 + 0, none⟩ = some u
    rw [Nat.mul_one]; exact h2
theorem slAt_rowY {A : Option Addr} {xs : List (BitVec 8)} {nb : List Nat} {w : World} (hA : 0 < xs.length → ∃ b off, A = some ⟨b, off, none⟩) (h : Rd (rows1 (rowY A xs)) nb w) : SlAt w A (u8Y (natY xs)) := by
  rcases Nat.eq_zero_or_pos xs.length with h0 | h0
  · exact .inl (by rw [List.eq_nil_of_length_eq_zero h0]; rfl)
  · obtain ⟨b, off, e⟩ := hA h0
    obtain ⟨_, h2, h3⟩ := h 0 (rowY A xs) rfl b off e h0
    refine .inr ⟨b, off, e, h2, fun j u hu => ?_⟩
    have hj : j < xs.length := by simpa [natY] using (List.getElem?_eq_some_iff.1 hu).1
    rw [natY_at hj] at hu
    have := h3 j hj 0 u hu
    rw [show off + j * (rowY A xs).s + 0 = off + j from by show off + j * 1 + 0 = off + j; omega] at this
    exact this
theorem apart_rowY {A : Option Addr} {xs : List (BitVec 8)} {Hr : List RBlk} {w : World} (h : Rd (rows1 (rowY A xs)) (bs (nums Hr)) w) (fz : List Nat) (h0 : 0 < xs.length) {b off : Nat} (hA : A = some ⟨b, off, none⟩) : Sfz fz Hr w b := by
  obtain ⟨h1, h2, _⟩ := h 0 (rowY A xs) rfl b off hA h0
  exact ⟨h2, fun l q hq hqp hb => absurd (mem_bs.2 ⟨q, List.mem_of_getElem? hq, hqp, hb⟩) h1⟩
end

section
def joinB (v : BitVec 64) (b : BitVec 8) : BitVec 64 := v <<< 8 ||| b.setWidth 64
def accL (xs : List (BitVec 8)) (k : Nat) : BitVec 64 := (xs.reverse.take k).foldl joinB 0#64
/-- The number of bytes, the lowest first. -/
def lowL (xs : List (BitVec 8)) : BitVec 64 := xs.reverse.foldl joinB 0#64
theorem accL_succ {xs : List (BitVec 8)} {k : Nat} (h : k < xs.length) : accL xs (k + 1) = joinB (accL xs k) (xs.reverse.getD k 0#8) := by
  unfold accL
  have hk : k < xs.reverse.length := by simpa using h
  rw [List.take_add_one, List.foldl_append, List.getElem?_eq_getElem hk, List.getD_eq_getElem?_getD, List.getElem?_eq_getElem hk]
  rfl
noncomputable abbrev ElY (A : Option Addr) (xs : List (BitVec 8)) : Env := mkEnv (rows1 (rowY A xs)) []
noncomputable def lo1 : Code := dropSeq 1 (Try.f35.body.getD .skip)
noncomputable def loR : Code := dropSeq 1 (sL lo1)
theorem lo_a (A : Option Addr) (xs : List (BitVec 8)) (c : Nat) : ∀ r, Is (evCs (ElY A xs) 60 (takeSeq 1 (Try.f35.body.getD .skip)) ⟨pat (inLive 0 [.rsl 0 xs.length c]) r 0 Try.f35.ntmps, ⟨[], [], allW⟩⟩ (chK [(0, .rsl 0 xs.length c), (2, .ptr 0 0)] Try.f35.ntmps ([AIt.cells [.int .u64 true 0] 23]) [])) := fun r => ev_eq [] (chR [(0, .rsl 0 xs.length c), (2, .ptr 0 0)] Try.f35.ntmps ([AIt.cells [.int .u64 true 0] 23]) []) (by kernel_rfl) trivial
theorem lo_b (A : Option Addr) (xs : List (BitVec 8)) (c : Nat) : ∀ r, Is (evCs (ElY A xs) 60 (takeSeq 1 (sL lo1)) ⟨pat [(0, .rsl 0 xs.length c), (2, .ptr 0 0)] r 0 Try.f35.ntmps, ⟨[AIt.cells [.int .u64 true 0] 23], [], allW⟩⟩ (chK [(2, .ptr 0 0), (6, .func (.func 60) [.ptr 1 0])] Try.f35.ntmps ([AIt.cells [.int .u64 true 0] 23, AIt.cells [.rsl 0 xs.length c] 39]) [])) := fun r => ev_eq [] (chR [(2, .ptr 0 0), (6, .func (.func 60) [.ptr 1 0])] Try.f35.ntmps ([AIt.cells [.int .u64 true 0] 23, AIt.cells [.rsl 0 xs.length c] 39]) []) (by kernel_rfl) trivial
theorem lo_r (A : Option Addr) (xs : List (BitVec 8)) (c : Nat) (v : BitVec 64) (i : Int) (b : BitVec 8) (r : Nat → Value) : Is (evR (ElY A xs) 60 2 (rgA loR) (rgB loR) ⟨setps (pat [(2, .ptr 0 0), (6, .func (.func 60) [.ptr 1 0])] r 0 Try.f35.ntmps) (rgP loR).toList [.int .i64 true i, .bv .u8 b], ⟨[AIt.cells [.bv .u64 v] 23, AIt.cells [.rsl 0 xs.length c] 39], [], fun l => allW l && !memN l [1]⟩⟩ (rndK false (rgI loR) 2 ([AIt.cells [.bv .u64 (joinB v b)] 23, AIt.cells [.rsl 0 xs.length c] 39]))) :=
  ev_eq [] (rndR false ([AIt.cells [.bv .u64 (joinB v b)] 23, AIt.cells [.rsl 0 xs.length c] 39])) (by kernel_rfl) trivial
theorem lo_z (A : Option Addr) (xs : List (BitVec 8)) (c : Nat) (v : BitVec 64) : ∀ rs, Is (evT (ElY A xs) 60 (.code (sR lo1)) ⟨pat [(2, .ptr 0 0), (6, .func (.func 60) [.ptr 1 0])] rs 0 Try.f35.ntmps, ⟨[AIt.cells [.bv .u64 v] 23, AIt.cells [.rsl 0 xs.length c] 39], [], allW⟩⟩ (retK (ElY A xs) Try.f35 (.bv .u64 v))) := fun rs => ev_eq [] (some [AV.bv .u64 v]) (by kernel_rfl) trivial
theorem natY_rev {xs : List (BitVec 8)} {k : Nat} {y : Int} (h : (natY xs).reverse[k]? = some y) : k < xs.length ∧ y = ((xs.reverse.getD k 0#8).toNat : Int) := by
  have hk : k < xs.length := by simpa [natY] using (List.getElem?_eq_some_iff.1 h).1
  refine ⟨hk, ?_⟩
  unfold natY at h
  rw [← List.map_reverse, List.getElem?_map, List.getElem?_eq_getElem (by simpa using hk)] at h
  rw [List.getD_eq_getElem?_getD, List.getElem?_eq_getElem (by simpa using hk)]
  exact (Option.some.inj h).symm
set_option maxHeartbeats 4000000 in
theorem low_any (A : Option Addr) (xs : List (BitVec 8)) (c : Nat) (w : World) (hc : xs.length ≤ c) (hn : xs.length ≤ 1000) (hS : SlAt w A (u8Y (natY xs))) : Calls Try.prog 35 #[.slice A xs.length c] w fun e w' => e = .returned (.int .u64 ((lowL xs).toNat : Int)) ∧ Below w.heap.size w w' := by
  obtain ⟨hA, hd⟩ := rowY_rd hS
  have hR := rowY_rw hA
  have hE : EnvOK (ElY A xs) := mkEnv_ok hR (by simp)
  have hnl : (natY xs).length = xs.length := by simp [natY]
  refine ev_enter (E := (ElY A xs)) (fn := Try.f35) (c := (Try.f35.body.getD .skip)) Try.func35 (by kernel_rfl) (args := [.rsl 0 xs.length c]) (Args := [.slice A xs.length c]) (show 1 ≤ Try.f35.ntmps by decide) (.cons (.rsl (r := rowY A xs) rfl hc) .nil) hd (ds := []) (wr := allW) fun a0 hP hB => ?_
  refine ev_seqs hE 60 1 (lo_a A xs c) hP hB fun a1 Hr1 w1 hP1 hB1 _ => ?_
  refine wp_parts (by kernel_rfl) ?_
  refine ev_seqs hE 60 1 (lo_b A xs c) hP1 hB1 fun a2 Hr2 w2 hP2 hB2 _ => ?_
  have hP2a := patSt_cells (l := 0) (cs' := [.bv .u64 (accL xs 0)]) (H := [AIt.cells [.int .u64 true 0] 23, AIt.cells [.rsl 0 xs.length c] 39]) rfl rfl (by kernel_rfl) hP2
  have hB2a := bun_cells (l := 0) (cs' := [.bv .u64 (accL xs 0)]) (H := [AIt.cells [.int .u64 true 0] 23, AIt.cells [.rsl 0 xs.length c] 39]) rfl hB2
  refine ev_rangeAt hE 60 (m := ⟨[AIt.cells [.bv .u64 (accL xs 0)] 23, AIt.cells [.rsl 0 xs.length c] 39], [], allW⟩) (c := loR) (live := [(2, .ptr 0 0), (6, .func (.func 60) [.ptr 1 0])]) (n := Try.f35.ntmps) (caps := [.ptr 1 0]) (xs := (natY xs).reverse) (encs := b8Enc (natY xs).length) (by kernel_rfl) (fun _ => by kernel_rfl) (enters_of Try.func60 (by kernel_rfl) rfl) (by kernel_rfl) [1] (fun lb hlb => ?_) (fun k _ => [.int .i64 true ((natY xs).length - 1 - (k : Int)), .bv .u8 (xs.reverse.getD k 0#8)]) (fun k y hy => ?_) (fun _ _ => rfl) (fun k => [AIt.cells [.bv .u64 (accL xs k)] 23, AIt.cells [.rsl 0 xs.length c] 39]) rfl (fun _ => rfl) (fun _ => []) (fun _ => false)
    (fun k y r hy _ => ?_) hP2a hB2a fun k a3 Hr3 w3 hEn hP3 hB3 _ => ?_
  · obtain ⟨rs, vs, _, _, hBl, hnd⟩ := hP2a
    obtain ⟨b0, s0, Cs, hp, hcs⟩ := hBl.get (l := 1) (cs := [.rsl 0 xs.length c]) (t := 39) rfl
    cases hcs with | cons g1 g2 =>
    cases g2
    obtain rfl := rel_rowY g1
    have hph := hBl.cph (l := 1) (cs := [.rsl 0 xs.length c]) (t := 39) rfl hp
    have hbk : Blk w2 b0 (#[.slice A xs.length c] : Array Value) 39 := (hB2a.own.1 1 _ _ rfl hp hph).2 rfl
    cases hlb with | cons k1 k2 =>
    cases k2
    obtain ⟨q2, m1, rfl⟩ := rel_ptr k1
    obtain ⟨p1, hp1, rfl⟩ := nums_at m1
    rw [hp] at hp1
    cases hp1
    have := back8_seq b0 A (natY xs) c w2 (Sfz [1] Hr2 w2) (by rw [hnl]; exact hbk.cell 0) (slAt_rowY hA hB2a.own.2) (by rw [hnl]; exact hc) (by rw [hnl]; omega) (sfz_of hBl hnd hB2a.own.1 rfl (l := 1) rfl hp hph rfl) (fun hne b' off e => apart_rowY hB2a.own.2 [1] (by
      rcases Nat.eq_zero_or_pos xs.length with h0 | h0
      · exact absurd (by rw [List.eq_nil_of_length_eq_zero h0]; rfl) hne
      · exact h0) e)
    exact this
  · obtain ⟨_, rfl⟩ := natY_rev hy
    rfl
  · obtain ⟨hk, _⟩ := natY_rev hy
    have := lo_r A xs c (accL xs k) ((natY xs).length - 1 - (k : Int)) (xs.reverse.getD k 0#8) r
    rw [← accL_succ hk] at this
    exact this
  have hk : k = xs.length := by
    rcases hEn with ⟨h1, _⟩ | ⟨_, _, h3, _⟩
    · rw [h1]; simp [natY]
    · cases h3
  subst hk
  have e : accL xs xs.length = lowL xs := by unfold accL lowL; rw [List.take_of_length_le (by simp)]
  rw [e] at hP3 hB3
  exact ev_rest hE 60 (lo_z A xs c (lowL xs)) rfl (fun j r h h0 => by obtain ⟨_, rfl⟩ := rows1_inv h; exact Nat.one_pos) hP3 hB3
end

section
theorem tinfo_b : (Try.prog.info? 5).map (fun i => (i.zero, i.size, i.bytes)) = some (some (.int .u8 0), 1, 1) := by kernel_rfl
theorem under_b : Try.prog.underlying 39 = some (.slice 5) := by kernel_rfl
theorem under_i : Try.prog.underlying 3 = some (.int .i64) := by kernel_rfl
/-- Room for so many, as yet none. -/
theorem grow_none (w : World) : Calls Try.prog 48 #[.slice none 0 0, .int .i64 0] w fun e w' => e = .returned (.slice none 0 0) ∧ w = w' := by
  go_enter Try.func48, Try.ntmps48
  go_wp2_with fail
  go_ret
  exact ⟨rfl, rfl⟩
theorem grow_some (n : Nat) (w : World) (h0 : 0 < n) (h1 : n ≤ 1000000) : Calls Try.prog 48 #[.slice none 0 0, .int .i64 n] w fun e w' =>
    ∃ cap, e = .returned (.slice (some ⟨w.heap.size, 0, none⟩) 0 cap) ∧ n ≤ cap ∧ w'.ownsRow w.heap.size 5 1 (.slice (some ⟨w.heap.size, 0, none⟩) 0 cap) 0 [] ∧ Below w.heap.size w w' := by
  obtain ⟨i0, hi, hz0, hz1, hz2⟩ := info_parts tinfo_b
  have hw0 : IntKind.i64.wrap (n : Int) = n := by rw [IntKind.wrap_i64]; omega
  go_enter Try.func48, Try.ntmps48
  go_wp2_with (first | (at_builtin; refine wpList_append_make rfl _ _ 39 3 rfl 5 i0 _ 1 under_b under_i hi hz0 hz1 hz2 rfl n rfl (by first | rfl | (simp; done)) h0 h1 (by omega) ?_))
  intro cap w1 hcap hown hb
  have HO := Lib.hid hown
  have HB := Lib.hid hb
  have hc0 : cap ≠ 0 := by omega
  clear hown hb
  go_wp2_with fail
  all_goals go_ret
  all_goals exact ⟨cap, rfl, hcap, HO.out, HB.out⟩
/-- Nothing laid behind nothing. -/
theorem wpList_append_none {P : Program} {w : World} {ops : Array Oper} {rest : List Oper} {o : Oper} {a : Act} {Q : Exit → Act → World → Prop} (hgd : o.guard = none) (s x : Operand) (t : TypeId)
    (ho : o.op = .call { callee := .builtin .append, args := #[s, x], argTypes := #[t, t] })
    (e : TypeId) (i : TypeInfo) (ht : P.underlying t = some (.slice e)) (hi : P.info? e = some i) (A : Option Addr) (c : Nat)
    (hs : a.eval s = .slice none 0 0) (hx : a.eval x = .slice A 0 c) (h : wpList P ops Q rest (a.put o.dst (.slice none 0 0)) w) : wpList P ops Q (o :: rest) a w := by
  have hrun : (Builtin.append_ #[t, t] o.type #[.slice none 0 0, .slice A 0 c]).run P w = .ok (.slice none 0 0) w := by
    have hd : P.underlying t = some (.slice e) := ht
    cases A <;> simp [Builtin.append_, run_underlying ht, sizeOf, typeInfo, hi, Builtin.lenOf, Builtin.firstCells, loadCells, loadCellsFrom]
  refine wpList_plain hgd fun K hK => ?_
  unfold Oper.wp execOp
  simp only [ho, resolve, invoke, builtin, Sem.run_bind, Sem.run_pure, Result.andThen_ok, List.map_toArray, List.map_cons, List.map_nil, hs, hx, hrun]
  exact hK _ _ h
/-- Parts that lie one behind the other. -/
structure Prt where
  A : Option Addr
  xs : List Int
  c : Nat
def Prt.v (p : Prt) : Value := .slice p.A p.xs.length p.c
def Prt.ok (p : Prt) (w : World) : Prop := SlAt w p.A (bytesC p.xs) ∧ p.xs.length ≤ p.c ∧ (p.A = none → p.xs = [] ∧ p.c = 0)
def lenP (l : List Prt) : Nat := (l.map fun p => p.xs.length).sum
def catP (l : List Prt) : List Int := l.flatMap Prt.xs
theorem lenP_take {l : List Prt} {k : Nat} {p : Prt} (h : l[k]? = some p) : lenP (l.take (k + 1)) = lenP (l.take k) + p.xs.length := by
  unfold lenP; rw [List.take_add_one, h]; simp
theorem catP_take {l : List Prt} {k : Nat} {p : Prt} (h : l[k]? = some p) : catP (l.take (k + 1)) = catP (l.take k) ++ p.xs := by
  unfold catP; rw [List.take_add_one, h]; simp
theorem catP_len (l : List Prt) : (catP l).length = lenP l := by
  induction l with
  | nil => rfl
  | cons p l ih => unfold catP lenP at *; simp [ih]
theorem lenP_le (l : List Prt) (k : Nat) : lenP (l.take k) ≤ lenP l := by
  conv => rhs; rw [← List.take_append_drop k l]
  unfold lenP; rw [List.map_append, List.sum_append]; omega
def SumRel (l : List Prt) (w : World) (s i : Value) (wr : World) : Prop := ∃ k : Nat, k ≤ l.length ∧ i = .int .i64 k ∧ s = .int .i64 (lenP (l.take k) : Nat) ∧ w = wr
def CatRel (l : List Prt) (w : World) (v i : Value) (wr : World) : Prop :=
  ∃ k : Nat, k ≤ l.length ∧ i = .int .i64 k ∧ Below w.heap.size w wr ∧ ((lenP l = 0 ∧ v = .slice none 0 0) ∨ ∃ g cap, v = .slice (some ⟨g, 0, none⟩) (lenP (l.take k)) cap ∧ lenP l ≤ cap ∧ w.heap.size ≤ g ∧ wr.ownsRow w.heap.size 5 1 (.slice (some ⟨g, 0, none⟩) (lenP (l.take k)) cap) (lenP (l.take k)) (bytesC (catP (l.take k))))
set_option maxHeartbeats 2000000 in
set_option maxRecDepth 20000 in
theorem concat_any (B : Option Addr) (l : List Prt) (bc : Nat) (w : World) (hl : SlAt w B (l.map Prt.v)) (hp : ∀ p ∈ l, p.ok w) (hk : l.length ≤ 1000) (hbc : l.length ≤ bc) (hn : lenP l ≤ 100000) :
    Calls Try.prog 32 #[.slice B l.length bc] w (Gives w (bytesC (catP l)) (lenP l)) := by
  obtain ⟨i0, hi, hz0, hz1, hz2⟩ := info_parts tinfo_b
  have HL := Lib.hid hl
  have HP := Lib.hid hp
  have HG0 := Lib.hid grow_none
  have HG1 := Lib.hid fun W h0 => grow_some (lenP l) W h0 (by omega)
  have HLE := Lib.hid (lenP_le l)
  have HI := Lib.hid hi
  clear hl hp
  generalize hln : l.length = n at *
  go_enter Try.func32, Try.ntmps32
  go_wp2_with fail
  go_loopw [3, 11] (fun s i wr => SumRel l w s i wr) (fun _ i _ => n - (intOf i).toNat)
  case atStart => exact ⟨0, Nat.zero_le _, rfl, by simp [lenP], rfl⟩
  case round =>
    obtain ⟨k, hk1, rfl, rfl, rfl⟩ := hrel
    by_cases hlt : k < n
    · obtain ⟨p, hpk⟩ : ∃ p, l[k]? = some p := ⟨l[k], by simp [hln, hlt]⟩
      obtain ⟨b, off, rfl, hbl, hcell⟩ := HL.out.cell (j := k) (u := p.v) (by simp [hpk])
      have hc0 : w.cell? ⟨b, off + k, none⟩ = some (.slice p.A p.xs.length p.c) := hcell k _ (by simp [hpk]; rfl)
      have hnx := lenP_take hpk
      have h1 := HLE.out k
      have h2 := HLE.out (k + 1)
      have HN := Lib.hid hnx
      clear hcell hpk
      rw [hnx] at h2
      clear hnx
      generalize hs : lenP (l.take k) = s at *
      generalize p.xs.length = m at *
      generalize p.A = A at *
      generalize p.c = c at *
      have hw : IntKind.i64.wrap ((s : Int) + (m : Int)) = ((s + m : Nat) : Int) := by rw [IntKind.wrap_i64]; omega
      have hd : decide (((s + m : Nat) : Int) < 0) = false := by simp; omega
      have HW := hw
      go_wp2_with fail
      exact ⟨⟨k + 1, by omega, by go_num, by rw [HN.out, Int.natCast_add], rfl⟩, by simp [intOf]; omega⟩
    · have hall : l.take k = l := List.take_of_length_le (by omega)
      rw [hall]
      have hlt' : decide ((k : Int) < n) = false := by simp; omega
      obtain rfl : k = n := by omega
      have HC : Calls Try.prog 48 #[.slice none 0 0, .int .i64 (lenP l : Nat)] w fun e w' => ∃ v, e = .returned v ∧ CatRel l w v (.int .i64 0) w' := by
        by_cases hz : lenP l = 0
        · have := HG0.out w
          rw [hz]
          exact this.mono fun e w' ⟨he, hw⟩ => ⟨_, he, 0, Nat.zero_le _, rfl, by rw [← hw]; exact Below.refl _ _, .inl ⟨hz, rfl⟩⟩
        · exact (HG1.out w (by omega)).mono fun e w' ⟨cap, he, hc, ho, hb⟩ => ⟨_, he, 0, Nat.zero_le _, rfl, hb, .inr ⟨w.heap.size, cap, by simp [lenP], hc, Nat.le_refl _, by simpa [lenP, catP, bytesC] using ho⟩⟩
      have HCC := Lib.hid HC
      clear HC HG0 HG1
      go_wp2_with fail
      refine HCC.out.mono ?_
      rintro e w2 ⟨v, rfl, hrel⟩
      have HR := Lib.hid hrel
      clear hrel HCC hlt'
      go_wp2_with fail
      go_loopw [6, 27] (fun v i w3 => CatRel l w v i w3) (fun _ i _ => k - (intOf i).toNat)
      case atStart => exact HR.out
      case round =>
        clear HR
        obtain ⟨j, hj, rfl, hb, hv⟩ := hrel
        by_cases hjk : j < k
        · obtain ⟨p, hpk⟩ : ∃ p, l[j]? = some p := ⟨l[j], by simp [hln, hjk]⟩
          obtain ⟨b, off, rfl, hbl, hcell⟩ := HL.out.cell (j := j) (u := p.v) (by simp [hpk])
          have hc0 : wr.cell? ⟨b, off + j, none⟩ = some (.slice p.A p.xs.length p.c) := (hb.cell (p := ⟨b, off + j, none⟩) hbl).trans (hcell j _ (by simp [hpk]; rfl))
          obtain ⟨hp1, hp2, hp3⟩ := HP.out p (List.mem_of_getElem? hpk)
          have hpS := hp1.grow hb
          have HN := Lib.hid (lenP_take hpk)
          have HT := Lib.hid (catP_take hpk)
          have h2 := HLE.out (j + 1)
          rw [HN.out] at h2
          clear hcell hp1
          rcases hv with ⟨hz, rfl⟩ | ⟨g, cap, rfl, hcap, hg, hown⟩
          · have hx0 : p.xs.length = 0 := by omega
            rw [hx0] at hc0
            have HZ := Lib.hid hz
            clear hz h2 hx0 hp2 hp3
            go_wp2_with (first | (at_builtin; refine wpList_append_none rfl _ _ 39 rfl 5 i0 under_b HI.out p.A p.c rfl rfl ?_))
            exact ⟨⟨j + 1, by omega, by go_num, hb, .inl ⟨HZ.out, rfl⟩⟩, by simp [intOf]; omega⟩
          · have HO := Lib.hid hown
            have HS := Lib.hid hpS
            have HB := Lib.hid hb
            have hone := Lib.hid (bytesC_one p.xs)
            have hlenx := Lib.hid (bytesC_len p.xs)
            clear hown hpS
            go_wp2_with (first | (at_builtin; refine wpList_append_fits_any _ rfl _ _ 39 rfl w.heap.size 5 i0 1 under_b HI.out hz1 g (lenP (l.take j)) cap (bytesC (catP (l.take j))) rfl HO.out p.A p.xs.length p.c (bytesC p.xs) rfl (by rw [hlenx.out, Nat.mul_one]) (fun h => by have := hp3 h; rw [this.1]; exact ⟨rfl, this.2⟩) (fun ad had k u hu => ?cells) hone.out (by omega) ?_))
            case cells =>
              obtain ⟨b', off', hA, _, hcs⟩ := HS.out.cell hu
              rw [hA] at had
              cases had
              rw [Addr.add_lit]
              exact hcs k u hu
            intro w3 hown3 hg3
            have hb3 : Below w.heap.size w w3 := HB.out.grown hg3 HB.out.size (fun k e => by cases e; exact hg)
            have hO3 : w3.ownsRow w.heap.size 5 1 (.slice (some ⟨g, 0, none⟩) (lenP (l.take (j + 1))) cap) (lenP (l.take (j + 1))) (bytesC (catP (l.take (j + 1)))) := by
              rw [HN.out, HT.out, bytesC_app]; exact hown3
            have HO3 := Lib.hid hO3
            have HB3 := Lib.hid hb3
            clear hown3 hg3 hO3 hb3 HO
            go_wp2_with fail
            exact ⟨⟨j + 1, by omega, by go_num, HB3.out, .inr ⟨g, cap, by rw [HN.out], hcap, hg, HO3.out⟩⟩, by simp [intOf]; omega⟩
        · obtain rfl : j = k := by omega
          rw [hall] at hv
          have hgiv : ∃ A c, u6 = .slice A (lenP l) c ∧ SlAt wr A (bytesC (catP l)) ∧ lenP l ≤ c ∧ FreshT w.heap.size (bytesC (catP l)) (lenP l) (.slice A (lenP l) c) wr := by
            rcases hv with ⟨hz, rfl⟩ | ⟨g, cap, rfl, hcap, hg, hown⟩
            · have hc0 : catP l = [] := List.eq_nil_of_length_eq_zero (by rw [catP_len]; exact hz)
              rw [hz, hc0]
              exact ⟨none, 0, rfl, .inl rfl, Nat.le_refl _, givesT_of_owns (World.ownsRow_nil wr w.heap.size 5 1)⟩
            · obtain ⟨A, c, hv, h1, h2, h3⟩ := slice_of_owns hown
              rw [hv] at h3
              exact ⟨A, c, hv, h1, h2, h3⟩
          obtain ⟨A, c, rfl, hs, hc, hT⟩ := hgiv
          have HS := Lib.hid hs
          clear hs hv
          go_wp2_with fail
          go_ret
          exact ⟨_, _, rfl, HS.out, hc, hb, hT⟩
end

section
def byte8 : List AV → Option (BitVec 8)
  | [.bv .u8 a] => some a
  | _ => none
def list8 (G : Nat → List AV) (m : Nat) : List (BitVec 8) := (List.range m).map fun i => (byte8 (G i)).getD 0#8
def all8 (G : Nat → List AV) (m : Nat) : Bool := (List.range m).all fun i => (byte8 (G i)).isSome
theorem list8_len (G : Nat → List AV) (m : Nat) : (list8 G m).length = m := by simp [list8]
theorem byte8_vals {l : List AV} {a : BitVec 8} (h : byte8 l = some a) : AV.vals? l = some [Value.int .u8 (a.toNat : Int)] := by
  unfold byte8 at h
  split at h
  · cases h; rfl
  · cases h
def longS : AV → Bool
  | .rsl _ _ _ | .xsl _ _ _ | .gsl _ _ _ _ => true
  | _ => false
theorem longS_cap {R : Rws} {ρ : Nums} {x : AV} {A : Option Addr} {m c : Nat} (h : longS x = true) (hx : Rel R ρ x (.slice A m c)) : m ≤ c := by
  generalize hV : Value.slice A m c = V at hx
  cases hx <;> first | (cases h; done) | (injection hV with h1 h2 h3; subst h2 h3; assumption)
def ctrLow (R : Rws) : CtrF
  | [x], H => match newsA R H 1 x with
    | some (m, G, cs) => bif longS x then some (.bv .u64 (lowL (list8 G m)), decide (m ≤ 1000) :: all8 G m :: cs) else none
    | none => none
  | _, _ => none
theorem list8_slAt {R : Rws} {H : Mem} {Hr : List RBlk} {m : Nat} {y : AV} {Y : Value} {G : Nat → List AV} {cs : List Bool} (hRw : RwOK R) (hB : RelB R (nums Hr) H Hr) (h : newsA R H 1 y = some (m, G, cs)) (hcs : ∀ c ∈ cs, c = true) (hb : all8 G m = true) (hy : Rel R (nums Hr) y Y) :
    ∃ A c, Y = .slice A m c ∧ ∀ w, OwnK R H Hr w → SlAt w A (u8Y (natY (list8 G m))) := by
  obtain ⟨A, c, rfl, hA⟩ := newsA_slAt (by decide) hRw hB h hcs hy
  refine ⟨A, c, rfl, fun w hO => ?_⟩
  have := hA (fun i => [Value.int .u8 (((byte8 (G i)).getD 0#8).toNat : Int)]) (fun i hi => by
    have := List.all_eq_true.1 hb i (List.mem_range.2 hi)
    obtain ⟨a, ha⟩ := Option.isSome_iff_exists.1 this
    rw [byte8_vals ha, ha]; rfl) w hO
  have e : u8Y (natY (list8 G m)) = (List.range m).flatMap fun i => [Value.int .u8 (((byte8 (G i)).getD 0#8).toNat : Int)] := by
    unfold list8 natY u8Y
    rw [List.map_map, List.map_map, ← List.flatMap_singleton' ((List.range m).map _), List.flatMap_map]
    rfl
  rw [e]; exact this
theorem ctrLow_ok {R : Rws} (hR : RwOK R) : Good Try.prog R 35 (ctrLow R) := by
  refine ⟨enters_of Try.func35 (by kernel_rfl) rfl, fun args H v cs hv hcs => ?_⟩
  unfold ctrLow at hv
  split at hv
  · rename_i H' x
    split at hv
    · rename_i m G cs' hn
      cases hd : longS x <;> simp only [hd, cond_true, cond_false] at hv
      · cases hv
      · cases hv
        have hm := of_decide_eq_true (hcs _ (List.mem_cons_self ..))
        have hb := hcs _ (List.mem_cons_of_mem _ (List.mem_cons_self ..))
        refine ⟨_, rfl, fun Hr Args ha hB hA w hO => ?_⟩
        cases ha with | cons a1 ha =>
        cases ha
        obtain ⟨A, c, rfl, hs⟩ := list8_slAt hR hB hn (fun c hc => hcs c (List.mem_cons_of_mem _ (List.mem_cons_of_mem _ hc))) hb a1
        have := low_any A (list8 G m) c w (by rw [list8_len]; exact longS_cap hd a1) (by rw [list8_len]; exact hm) (hs w hO)
        rw [list8_len] at this
        exact this
    · cases hv
  · cases hv
/-- Room for so many, as yet none. -/
def ctmGrow (e : TypeId) : CtmF
  | [.raw (.slice none 0 0), .int .i64 _ n], H, _ => some (.gsl .top H.length 0 0, H ++ [.row 0 1 (fun _ => []) e none], [decide (0 < n ∧ n ≤ 1000000)])
  | _, _, _ => none
theorem ctmGrow_ok {R : Rws} : GoodM Try.prog R 48 (ctmGrow 5) := by
  refine ⟨enters_of Try.func48 (by kernel_rfl) rfl, fun args H wr v H' cs hv hcs Hr w Args ha hB hA hO => ?_⟩
  unfold ctmGrow at hv
  split at hv
  · rename_i H'' wr' l n
    cases hv
    have hn := of_decide_eq_true (hcs _ (List.mem_singleton.2 rfl))
    cases ha with | cons a1 ha =>
    cases ha with | cons a2 ha =>
    cases ha
    cases a1; cases a2
    obtain ⟨k, rfl⟩ := Int.eq_ofNat_of_zero_le (show 0 ≤ n by omega)
    refine (grow_some k w (by omega) (by omega)).mono ?_
    rintro e w' ⟨cap, rfl, hcap, hown, hb⟩
    obtain ⟨Hr', h1, h2, h3, h4, h5⟩ := fresh_row (wr := wr) (G := fun _ => []) (by decide) hown (fun i hi => by omega) (fun v hv => by simp at hv) hB hA hO hb
    exact ⟨_, Hr', rfl, h1, h2, h3, h4, h5⟩
  · cases hv
noncomputable abbrev tabMb (R : Rws) : List (Nat × CtrF) := [(35, ctrLow R)]
noncomputable abbrev genMb : Nat → Bool := fun f => Nat.beq f 1000003 || Nat.beq f 33 || Nat.beq f 32 || Nat.beq f 17 || Nat.beq f 19 || Nat.beq f 20 || Nat.beq f 14
noncomputable abbrev EMb (R : Rws) : Env := ⟨Try.prog, eqsK Try.prog, R, lookF (tabMb R), lookCm [(48, ctmGrow 5)], fun _ => false, genMb, fun f => Nat.beq f 34⟩
theorem EMb_ok {R : Rws} (hR : RwOK R) : EnvOK (EMb R) := ⟨eqsK_ok, hR, fun f F h => lookF_ok (good_cons (p := (_, _)) (ctrLow_ok hR) (by simp)) f F h, fun f F h => lookCm_ok (goodM_cons (q := (_, _)) ctmGrow_ok goodM_nil) f F h, rfl⟩
/-- What is milled. -/
structure XB where
  n : BitVec 32
  h : Nat → BitVec 64
  m : Nat → BitVec 64
  o0 : BitVec 64
  o1 : BitVec 64
  last : Bool
def xbA (x : XB) : List AV := [.bv .u32 x.n, .bv .u64 (x.h 0), .bv .u64 (x.h 1), .bv .u64 (x.h 2), .bv .u64 (x.h 3), .bv .u64 (x.h 4), .bv .u64 (x.h 5), .bv .u64 (x.h 6), .bv .u64 (x.h 7), .bv .u64 (x.m 0), .bv .u64 (x.m 1), .bv .u64 (x.m 2), .bv .u64 (x.m 3), .bv .u64 (x.m 4), .bv .u64 (x.m 5), .bv .u64 (x.m 6), .bv .u64 (x.m 7), .bv .u64 (x.m 8), .bv .u64 (x.m 9), .bv .u64 (x.m 10), .bv .u64 (x.m 11), .bv .u64 (x.m 12), .bv .u64 (x.m 13), .bv .u64 (x.m 14), .bv .u64 (x.m 15), .bv .u64 x.o0, .bv .u64 x.o1, .bool false x.last]
end

section
theorem flatR_len {s : Nat} (Vf : Nat → List Value) (m : Nat) (hl : ∀ i, i < m → (Vf i).length = s) : ((List.range m).flatMap Vf).length = m * s := by
  rw [List.length_flatMap]
  have : (List.range m).map (fun i => (Vf i).length) = (List.range m).map (fun _ => s) := List.map_congr_left fun i hi => hl i (by simpa using hi)
  rw [this, List.map_const', List.sum_replicate_nat, List.length_range]
/-- A row of ours in a block of ours. -/
theorem owns_of {R : Rws} {H : Mem} {Hr : List RBlk} {w : World} {base l n s : Nat} {F : Nat → List AV} {e : TypeId} {Vf : Nat → List Value} {V : Value} (hB : RelB R (nums Hr) H Hr) (hl : H[l]? = some (.row n s F e none)) (hO : OwnM H Hr w) (hf : ∀ q ∈ nums Hr, q.ph = false → base ≤ q.b) (h0 : 0 < n) (hV : ∀ i, i < n → AV.vals? (F i) = some (Vf i)) (hv : Rel R (nums Hr) (.gsl .top l 0 n) V) : w.ownsRow base e s V n ((List.range n).flatMap Vf) := by
  obtain ⟨p, h1, h2⟩ := hB.at hl
  cases hv with | gsl hq hn ha hk hm =>
  rename_i c A q
  rw [nums_get h1] at hq
  obtain rfl := Option.some.inj hq
  obtain ⟨rfl, hph⟩ := ha.resolve_left (by omega)
  cases h2 with
  | row0 hp => omega
  | row hr hc hnc hcm hs =>
    rename_i b cur c'
    have hcc : c = c' := by
      rcases hk with hk | ⟨_, _, hk⟩
      · omega
      · have hk : (0 + c) * s = cur.size := hk
        rw [hc, Nat.zero_add] at hk
        exact Nat.eq_of_mul_eq_mul_right hs hk
    subst hcc
    have hblk : w.heap[b]? = some (.cells cur e (0, 0)) := (hO l _ _ hl h1 hph).2 rfl
    have hlen : ∀ i, i < n → (Vf i).length = s := fun i hi => by
      obtain ⟨U, u1, u2, _⟩ := hr i hi
      rw [hV i hi] at u1; cases u1; exact u2
    have hfl := flatR_len Vf n hlen
    refine ⟨hfl, .inr ⟨b, c, cur, by simp [RBlk.num], hf _ (List.mem_of_getElem? (nums_get h1)) hph, hblk, hn, hm, hc, ?_⟩⟩
    refine List.ext_getElem? fun j => ?_
    by_cases hj : j < n * s
    · obtain ⟨u, hu⟩ : ∃ u, ((List.range n).flatMap Vf)[j]? = some u := ⟨_, List.getElem?_eq_getElem (by rw [hfl]; exact hj)⟩
      obtain ⟨k1, k2⟩ := flat_get hs Vf n hlen j u hu
      obtain ⟨U, u1, _, _, u4⟩ := hr _ k1
      rw [hV _ k1] at u1; cases u1
      have := u4 _ _ k2
      have e1 : j / s * s + j % s = j := by rw [Nat.mul_comm]; exact Nat.div_add_mod j s
      rw [e1] at this
      rw [hu, List.getElem?_take, if_pos hj]
      simpa using this
    · rw [List.getElem?_eq_none (show (List.take (n * s) cur.toList).length ≤ j by rw [List.length_take]; omega), List.getElem?_eq_none (show ((List.range n).flatMap Vf).length ≤ j by rw [hfl]; omega)]
/-- A nil slice in a variable, told as an empty row that has no block. -/
theorem nil_rowT {R : Rws} {D : List Deferred} {Ds : List Nat} {n0 : Nat} {w0 w : World} {live : List (Nat × AV)} {n d s : Nat} {H : Mem} {F : Nat → List AV} {e : TypeId} {ds : List Bool} {wr : Nat → Bool} {a : Act} {Hr : List RBlk} (hs : 0 < s) (hkeys : live.all (fun p => Nat.blt p.1 n) = true) (hd : d < n) (hl : look d live = some (.raw (.slice none 0 0)))
    (hP : PatSt R D live n ⟨H, ds, wr⟩ a Hr) (hB : Bun R Ds n0 w0 H Hr w) :
    PatSt R D ((d, .gsl .top H.length 0 0) :: live) n ⟨H ++ [.row 0 s F e none], ds, wr⟩ a (Hr ++ [noBlk s]) ∧ Bun R Ds n0 w0 (H ++ [.row 0 s F e none]) (Hr ++ [noBlk s]) w := by
  obtain ⟨r, vs, e', ht, hBl, hA⟩ := hP
  have hno : (noBlk s).num.ph = false → ∀ {p : Prop}, p := fun h => by rw [noBlk_ph hs] at h; cases h
  have hn : nums (Hr ++ [noBlk s]) = nums Hr ++ [(noBlk s).num] := nums_snoc _ _
  have hq : (nums Hr ++ [(noBlk s).num])[H.length]? = some (noBlk s).num := by
    rw [List.getElem?_append_right (by simp [nums, hBl.1])]; simp [nums, hBl.1]
  have hbs : bs (nums (Hr ++ [noBlk s])) = bs (nums Hr) := by rw [hn]; simp [bs, noBlk_ph hs]
  have hP' : PatSt R D live n ⟨H ++ [.row 0 s F e none], ds, wr⟩ a (Hr ++ [noBlk s]) := ⟨r, vs, e', by rw [hn]; exact ht.grow _, by rw [hn]; exact (hBl.grow _).snoc (.row0 (noBlk_ph hs)), apart_new hA hB.own.1 hBl.1 (fun h => hno h)⟩
  refine ⟨patSt_val hP' hkeys hd hl (fun V hv => by cases hv; exact rel_gsl_no (by rw [hn]; exact hq)), ⟨⟨own_new hB.own.1 hBl.1 (Below.refl _ _) (fun h => hno h), ?_⟩, ?_, hB.nodup, ?_, hB.below, hB.size⟩⟩
  · rw [hbs]; exact hB.own.2
  · rw [hbs]; exact hB.marks
  · intro q hq hqp
    rw [hn] at hq
    rcases List.mem_append.1 hq with h | h
    · exact hB.fresh q h hqp
    · rw [List.mem_singleton.1 h, noBlk_ph hs] at hqp; cases hqp
/-- One element more. -/
def apF (N : Nat) (F : Nat → List AV) (x : AV) : Nat → List AV := fun i => bif Nat.blt i N then F i else (((([x] : List AV).drop 0).take (1 * 1)).drop ((i - N) * 1)).take 1
theorem apF_lt {N i : Nat} {F : Nat → List AV} {x : AV} (h : i < N) : apF N F x i = F i := by
  unfold apF; rw [show Nat.blt i N = true from by rw [Nat.blt_eq]; exact h]; rfl
theorem apF_at {N i : Nat} {F : Nat → List AV} {x : AV} (h : i = N) : apF N F x i = [x] := by
  subst h
  unfold apF
  rw [show Nat.blt i i = false from by rw [Bool.eq_false_iff]; intro h; rw [Nat.blt_eq] at h; omega]
  simp
theorem apF_eq {N : Nat} {F : Nat → List AV} {x : AV} : apF N F x N = [x] := by
  unfold apF
  rw [show Nat.blt N N = false from by rw [Bool.eq_false_iff]; intro h; rw [Nat.blt_eq] at h; omega]
  simp
def rowL : Option AIt → Option (Nat × Nat × TypeId × List (List AV))
  | some (.row n s F e none) => some (n, s, e, (List.range n).map F)
  | _ => none
def mkK (l n s : Nat) (e : TypeId) (L : List (List AV)) : AV → AM → Prop := fun v m => (v, rowL m.H[l]?) = (.gsl .top l 0 n, some (n, s, e, L))
theorem rowL_inv {o : Option AIt} {n s : Nat} {e : TypeId} {L : List (List AV)} (h : rowL o = some (n, s, e, L)) : ∃ F, o = some (.row n s F e none) ∧ (List.range n).map F = L := by
  unfold rowL at h
  split at h
  · cases h; exact ⟨_, rfl, rfl⟩
  · cases h
/-- A function that makes a row, from its evaluation. -/
theorem mk_of_ev {E : Env} (hE : EnvOK E) (nf : Nat) {f : FuncId} {args : List AV} {Args : List Value} {l n s : Nat} {e : TypeId} {L : List (List AV)} {ds : List Bool} {wr : Nat → Bool} (h : Is (evCall E nf f args ⟨[], ds, wr⟩ (mkK l n s e L))) (h0 : 0 < n) (Vf : Nat → List Value) (hV : ∀ i, i < n → AV.vals? (L.getD i []) = some (Vf i)) (ha : RelL E.rows [] args Args) (w : World) (hd : Rd E.rows [] w) :
    Calls E.P f Args.toArray w fun en w' => ∃ V, en = .returned V ∧ w'.ownsRow w.heap.size e s V n ((List.range n).flatMap Vf) ∧ Below w.heap.size w w' := by
  obtain ⟨v, m', hk, hlo, hen, hcall⟩ := call_ok hE (ev_sound hE nf) f _ _ _ h.is
  unfold mkK at hk
  simp only [Prod.mk.injEq] at hk
  obtain ⟨rfl, hH⟩ := hk
  obtain ⟨F, hF, rfl⟩ := rowL_inv hH
  refine (hcall [] w Args ha RelB.nil Apart.nil ⟨OwnM.nil _, hd⟩).mono ?_
  rintro en w' ⟨V, Hr', rfl, hv, hB, hn, hO, hS⟩
  obtain ⟨σ, e1, e2⟩ := hS.ext
  refine ⟨V, rfl, owns_of hB hF hO.1 (fun q hq hqp => ?_) h0 (fun i hi => ?_) hv, ⟨hS.os, hS.tape, hS.output, hS.size, fun k hk => hS.block k hk fun l q hl _ _ => by simp [nums] at hl⟩⟩
  · rw [e1] at hq
    rcases e2 q (by simpa [nums] using hq) hqp with h | ⟨l, p, h, _⟩
    · exact h
    · simp [nums] at h
  · have := hV i hi
    rwa [List.getD_eq_getElem?_getD, List.getElem?_map, List.getElem?_range hi] at this
/-- The same as a contract, beside what is known. -/
theorem ctm_of_mk {R : Rws} {P : Program} {f : FuncId} {Args : Array Value} {H : Mem} {Hr : List RBlk} {w : World} {n s : Nat} {e : TypeId} {wr : Nat → Bool} {G : Nat → List AV} {Vf : Nat → List Value} (hs : 0 < s) (hm : Calls P f Args w fun en w' => ∃ V, en = .returned V ∧ w'.ownsRow w.heap.size e s V n ((List.range n).flatMap Vf) ∧ Below w.heap.size w w') (hlen : ∀ i, i < n → (Vf i).length = s) (hone : ∀ i, i < n → ∀ v ∈ Vf i, v.oneCell' = true) (hG : ∀ i, i < n → AV.vals? (G i) = some (Vf i)) (hB : RelB R (nums Hr) H Hr) (hA : Apart H Hr) (hO : OwnK R H Hr w) :
    Calls P f Args w fun en w' => ∃ V Hr', en = .returned V ∧ Rel R (nums Hr') (.gsl .top H.length 0 n) V ∧ RelB R (nums Hr') (H ++ [.row n s G e none]) Hr' ∧ Apart (H ++ [.row n s G e none]) Hr' ∧ OwnK R (H ++ [.row n s G e none]) Hr' w' ∧ Stp wr Hr w Hr' w' := by
  refine hm.mono ?_
  rintro en w' ⟨V, rfl, hown, hb⟩
  obtain ⟨Hr', h1, h2, h3, h4, h5⟩ := fresh_row (wr := wr) (G := G) hs hown (fun i hi => by
    rw [hG i hi]
    refine congrArg some (List.ext_getElem? fun j => ?_)
    rw [List.getElem?_take]
    split
    · rename_i hj
      rw [List.getElem?_drop]
      have hu : ((List.range n).flatMap Vf)[i * s + j]? = (Vf i)[j]? := by
        have hjl : j < (Vf i).length := by rw [hlen i hi]; exact hj
        have hlt : i * s + j < ((List.range n).flatMap Vf).length := by
          rw [flatR_len Vf n hlen]
          have : (i + 1) * s ≤ n * s := Nat.mul_le_mul_right s hi
          rw [Nat.add_mul] at this; omega
        obtain ⟨k1, k2⟩ := flat_get hs Vf n hlen _ _ (List.getElem?_eq_getElem hlt)
        have q1 : (i * s + j) / s = i := by rw [Nat.mul_comm, Nat.mul_add_div hs, Nat.div_eq_of_lt hj]; omega
        have q2 : (i * s + j) % s = j := by rw [Nat.mul_comm, Nat.mul_add_mod, Nat.mod_eq_of_lt hj]
        rw [q1, q2] at k2
        rw [List.getElem?_eq_getElem hlt, k2]
      rw [hu]
    · rename_i hj
      rw [List.getElem?_eq_none (by rw [hlen i hi]; omega)]) (fun v hv => by
    obtain ⟨i, hi, hvi⟩ := List.mem_flatMap.1 hv
    exact hone i (List.mem_range.1 hi) v hvi) hB hA hO hb
  exact ⟨V, Hr', rfl, h1, h2, h3, h4, h5⟩
end

section
def rowU (A : Option Addr) (xs : List (BitVec 64)) : RowI := ⟨A, xs.length, 1, fun i => [.bv .u64 (xs.getD i.toNat 0#64)], fun i => [.int .u64 ((xs.getD i 0#64).toNat : Int)], []⟩
def valU (xs : List (BitVec 64)) : List Value := xs.map fun x => .int .u64 (x.toNat : Int)
theorem valU_at {xs : List (BitVec 64)} {i : Nat} (h : i < xs.length) : (valU xs)[i]? = some (.int .u64 ((xs.getD i 0#64).toNat : Int)) := by
  simp [valU, List.getD_eq_getElem?_getD, h]
theorem rowU_rw {A : Option Addr} {xs : List (BitVec 64)} (hA : 0 < xs.length → ∃ b off, A = some ⟨b, off, none⟩) : RwOK (rows1 (rowU A xs)) := by
  refine ⟨fun j r hj i hi => ?_, fun j r hj i hi => ?_, fun j r hj i hi v hv => ?_, fun j r hj h0 => ?_, fun j r hj a j' ha => ?_⟩
  · obtain ⟨_, rfl⟩ := rows1_inv hj
    show AV.vals? [.bv .u64 (xs.getD ((i : Nat) : Int).toNat 0#64)] = some [.int .u64 ((xs.getD i 0#64).toNat : Int)]
    rw [Int.toNat_natCast]; rfl
  · obtain ⟨_, rfl⟩ := rows1_inv hj; rfl
  · obtain ⟨_, rfl⟩ := rows1_inv hj
    simp only [rowU, List.mem_cons, List.not_mem_nil, or_false] at hv
    subst hv; rfl
  · obtain ⟨_, rfl⟩ := rows1_inv hj; exact hA h0
  · obtain ⟨_, rfl⟩ := rows1_inv hj; cases ha
theorem rowU_rd {A : Option Addr} {xs : List (BitVec 64)} {w : World} (hS : SlAt w A (valU xs)) : (0 < xs.length → ∃ b off, A = some ⟨b, off, none⟩) ∧ Rd (rows1 (rowU A xs)) [] w := by
  rcases hS with h | ⟨b, off, rfl, hb, hc⟩
  · have : xs = [] := by cases xs with
      | nil => rfl
      | cons x r => simp [valU] at h
    subst this
    exact ⟨fun h => absurd h (by simp), fun j r hj b off hA h0 => by obtain ⟨_, rfl⟩ := rows1_inv hj; exact absurd h0 (by simp [rowU])⟩
  · refine ⟨fun _ => ⟨b, off, rfl⟩, fun j r hj b' off' hA h0 => ?_⟩
    obtain ⟨_, rfl⟩ := rows1_inv hj
    have hA : some (⟨b, off, none⟩ : Addr) = some ⟨b', off', none⟩ := hA
    cases hA
    refine ⟨by simp, hb, fun i hi q u hu => ?_⟩
    have hi : i < xs.length := hi
    have hq : q < 1 := (List.getElem?_eq_some_iff.1 hu).1
    obtain rfl : q = 0 := by omega
    have h2 := hc i u ((valU_at hi).trans hu)
    show w.cell? ⟨b, off + i * 1 + 0, none⟩ = some u
    rw [Nat.mul_one]; exact h2
/-- Byte j of a number, the lowest first. -/
def byteN (v : BitVec 64) (j : Nat) : BitVec 8 := BitVec.setWidth 8 (v >>> (8 * j))
def toldF (xs : List (BitVec 64)) : Nat → List AV := fun i => [.bv .u8 (byteN (xs.getD (i / 8) 0#64) (i % 8))]
noncomputable abbrev EuT (A : Option Addr) (xs : List (BitVec 64)) : Env := mkEnv (rows1 (rowU A xs)) []
noncomputable def to1 : Code := dropSeq 1 (Try.f33.body.getD .skip)
noncomputable def toL : Code := dropSeq 1 (sL to1)
noncomputable def toB : Code := lpB (bkB toL)
theorem to_a (A : Option Addr) (xs : List (BitVec 64)) (c : Nat) : ∀ r, Is (evCs (EuT A xs) 60 (takeSeq 1 (Try.f33.body.getD .skip)) ⟨pat (inLive 0 [.rsl 0 xs.length c]) r 0 Try.f33.ntmps, ⟨[], [], allW⟩⟩ (chK [(0, .rsl 0 xs.length c), (2, .raw (.slice none 0 0))] Try.f33.ntmps [] [])) := fun r => ev_eq [] (chR [(0, .rsl 0 xs.length c), (2, .raw (.slice none 0 0))] Try.f33.ntmps [] []) (by kernel_rfl) trivial
theorem to_b (A : Option Addr) (xs : List (BitVec 64)) (c : Nat) (F : Nat → List AV) : ∀ r, Is (evCs (EuT A xs) 60 (takeSeq 1 (sL to1)) ⟨pat ((2, .gsl .top 0 0 0) :: [(0, .rsl 0 xs.length c), (2, .raw (.slice none 0 0))]) r 0 Try.f33.ntmps, ⟨[AIt.row (0) 1 (F) 5 none], [], allW⟩⟩ (chK [(2, .gsl .top 0 0 (0)), (6, .rsl 0 xs.length c), (7, .int .i64 false xs.length), (8, .int .i64 true 0)] Try.f33.ntmps [AIt.row (0) 1 (F) 5 none] [])) := fun r => ev_eq [] (chR [(2, .gsl .top 0 0 (0)), (6, .rsl 0 xs.length c), (7, .int .i64 false xs.length), (8, .int .i64 true 0)] Try.f33.ntmps [AIt.row (0) 1 (F) 5 none] []) (by kernel_rfl) trivial
theorem to_l (A : Option Addr) (xs : List (BitVec 64)) (c : Nat) (N : Nat) (F : Nat → List AV) (k : Int) (h : AllE [(decide (k < (xs.length : Int)), true), (decide (0 ≤ k ∧ k < (xs.length : Int)), true), (decide (N ≤ N), true), (decide (N + 1 ≤ 1000000), true), (decide (N + 1 ≤ N + 1), true), (decide (N + 1 + 1 ≤ 1000000), true), (decide (N + 1 + 1 ≤ N + 1 + 1), true), (decide (N + 1 + 1 + 1 ≤ 1000000), true), (decide (N + 1 + 1 + 1 ≤ N + 1 + 1 + 1), true), (decide (N + 1 + 1 + 1 + 1 ≤ 1000000), true), (decide (N + 1 + 1 + 1 + 1 ≤ N + 1 + 1 + 1 + 1), true), (decide (N + 1 + 1 + 1 + 1 + 1 ≤ 1000000), true), (decide (N + 1 + 1 + 1 + 1 + 1 ≤ N + 1 + 1 + 1 + 1 + 1), true), (decide (N + 1 + 1 + 1 + 1 + 1 + 1 ≤ 1000000), true), (decide (N + 1 + 1 + 1 + 1 + 1 + 1 ≤ N + 1 + 1 + 1 + 1 + 1 + 1), true), (decide (N + 1 + 1 + 1 + 1 + 1 + 1 + 1 ≤ 1000000), true), (decide (N + 1 + 1 + 1 + 1 + 1 + 1 + 1 ≤ N + 1 + 1 + 1 + 1 + 1 + 1 + 1), true), (decide (N + 1 + 1 + 1 + 1 + 1 + 1 + 1 + 1 ≤ 1000000), true)]) : ∀ r, Is (evT (EuT A xs) 60 (.code toB) ⟨pat [(2, .gsl .top 0 0 (N)), (6, .rsl 0 xs.length c), (7, .int .i64 false xs.length), (8, .int .i64 false k)] r 0 Try.f33.ntmps, ⟨[AIt.row (N) 1 (F) 5 none], [true], allW⟩⟩ (selK [16] .normal [(2, .gsl .top 0 0 (N + 8)), (6, .rsl 0 xs.length c), (7, .int .i64 false xs.length), (8, .int .i64 false (IntKind.wrap IntKind.i64 (k + 1)))] Try.f33.ntmps [AIt.row (N + 8) 1 ((apF (N + 7) (apF (N + 6) (apF (N + 5) (apF (N + 4) (apF (N + 3) (apF (N + 2) (apF (N + 1) (apF N F (.bv .u8 (byteN (xs.getD k.toNat 0#64) 0))) (.bv .u8 (byteN (xs.getD k.toNat 0#64) 1))) (.bv .u8 (byteN (xs.getD k.toNat 0#64) 2))) (.bv .u8 (byteN (xs.getD k.toNat 0#64) 3))) (.bv .u8 (byteN (xs.getD k.toNat 0#64) 4))) (.bv .u8 (byteN (xs.getD k.toNat 0#64) 5))) (.bv .u8 (byteN (xs.getD k.toNat 0#64) 6))) (.bv .u8 (byteN (xs.getD k.toNat 0#64) 7)))) 5 none])) := fun r => ev_eq [(decide (k < (xs.length : Int)), true), (decide (0 ≤ k ∧ k < (xs.length : Int)), true), (decide (N ≤ N), true), (decide (N + 1 ≤ 1000000), true), (decide (N + 1 ≤ N + 1), true), (decide (N + 1 + 1 ≤ 1000000), true), (decide (N + 1 + 1 ≤ N + 1 + 1), true), (decide (N + 1 + 1 + 1 ≤ 1000000), true), (decide (N + 1 + 1 + 1 ≤ N + 1 + 1 + 1), true), (decide (N + 1 + 1 + 1 + 1 ≤ 1000000), true), (decide (N + 1 + 1 + 1 + 1 ≤ N + 1 + 1 + 1 + 1), true), (decide (N + 1 + 1 + 1 + 1 + 1 ≤ 1000000), true), (decide (N + 1 + 1 + 1 + 1 + 1 ≤ N + 1 + 1 + 1 + 1 + 1), true), (decide (N + 1 + 1 + 1 + 1 + 1 + 1 ≤ 1000000), true), (decide (N + 1 + 1 + 1 + 1 + 1 + 1 ≤ N + 1 + 1 + 1 + 1 + 1 + 1), true), (decide (N + 1 + 1 + 1 + 1 + 1 + 1 + 1 ≤ 1000000), true), (decide (N + 1 + 1 + 1 + 1 + 1 + 1 + 1 ≤ N + 1 + 1 + 1 + 1 + 1 + 1 + 1), true), (decide (N + 1 + 1 + 1 + 1 + 1 + 1 + 1 + 1 ≤ 1000000), true)] (selR [(2, .gsl .top 0 0 (N + 8)), (6, .rsl 0 xs.length c), (7, .int .i64 false xs.length), (8, .int .i64 false (IntKind.wrap IntKind.i64 (k + 1)))] Try.f33.ntmps [AIt.row (N + 8) 1 ((apF (N + 7) (apF (N + 6) (apF (N + 5) (apF (N + 4) (apF (N + 3) (apF (N + 2) (apF (N + 1) (apF N F (.bv .u8 (byteN (xs.getD k.toNat 0#64) 0))) (.bv .u8 (byteN (xs.getD k.toNat 0#64) 1))) (.bv .u8 (byteN (xs.getD k.toNat 0#64) 2))) (.bv .u8 (byteN (xs.getD k.toNat 0#64) 3))) (.bv .u8 (byteN (xs.getD k.toNat 0#64) 4))) (.bv .u8 (byteN (xs.getD k.toNat 0#64) 5))) (.bv .u8 (byteN (xs.getD k.toNat 0#64) 6))) (.bv .u8 (byteN (xs.getD k.toNat 0#64) 7)))) 5 none]) (by kernel_rfl) h
theorem to_x (A : Option Addr) (xs : List (BitVec 64)) (c : Nat) (N : Nat) (F : Nat → List AV) (k : Int) (h : AllE [(decide (k < (xs.length : Int)), false)]) : ∀ r, Is (evT (EuT A xs) 60 (.code toB) ⟨pat [(2, .gsl .top 0 0 (N)), (6, .rsl 0 xs.length c), (7, .int .i64 false xs.length), (8, .int .i64 false k)] r 0 Try.f33.ntmps, ⟨[AIt.row (N) 1 (F) 5 none], [false], allW⟩⟩ (selK [0] (.exit 0) [(2, .gsl .top 0 0 N)] Try.f33.ntmps [AIt.row (N) 1 (F) 5 none])) := fun r => ev_eq [(decide (k < (xs.length : Int)), false)] (selR [(2, .gsl .top 0 0 N)] Try.f33.ntmps [AIt.row (N) 1 (F) 5 none]) (by kernel_rfl) h
theorem to_z (A : Option Addr) (xs : List (BitVec 64)) (c : Nat) (N : Nat) (F : Nat → List AV) : ∀ rs, Is (evT (EuT A xs) 60 (.code (sR to1)) ⟨pat [(2, .gsl .top 0 0 N)] rs 0 Try.f33.ntmps, ⟨[AIt.row (N) 1 (F) 5 none], [], allW⟩⟩ (chE .ret [(2, .gsl .top 0 0 N)] Try.f33.ntmps [AIt.row (N) 1 (F) 5 none] [])) := fun r => ev_eq [] (chR [(2, .gsl .top 0 0 N)] Try.f33.ntmps [AIt.row (N) 1 (F) 5 none] []) (by kernel_rfl) trivial
theorem told_next {xs : List (BitVec 64)} {k N : Nat} (hN : N = 8 * k) : ∀ i, i < N + 8 → toldF xs i = (apF (N + 7) (apF (N + 6) (apF (N + 5) (apF (N + 4) (apF (N + 3) (apF (N + 2) (apF (N + 1) (apF N (toldF xs) (.bv .u8 (byteN (xs.getD k 0#64) 0))) (.bv .u8 (byteN (xs.getD k 0#64) 1))) (.bv .u8 (byteN (xs.getD k 0#64) 2))) (.bv .u8 (byteN (xs.getD k 0#64) 3))) (.bv .u8 (byteN (xs.getD k 0#64) 4))) (.bv .u8 (byteN (xs.getD k 0#64) 5))) (.bv .u8 (byteN (xs.getD k 0#64) 6))) (.bv .u8 (byteN (xs.getD k 0#64) 7))) i := by
  subst hN
  generalize hv : xs.getD k 0#64 = v
  intro i hi
  by_cases h0 : i < 8 * k
  · rw [apF_lt (by omega), apF_lt (by omega), apF_lt (by omega), apF_lt (by omega), apF_lt (by omega), apF_lt (by omega), apF_lt (by omega), apF_lt (by omega)]
  · have e : ∀ j, j < 8 → toldF xs (8 * k + j) = [.bv .u8 (byteN v j)] := fun j hj => by
      unfold toldF
      rw [show (8 * k + j) / 8 = k by omega, show (8 * k + j) % 8 = j by omega, hv]
    obtain ⟨j, rfl⟩ : ∃ j, i = 8 * k + j := ⟨i - 8 * k, by omega⟩
    have hj : j < 8 := by omega
    rw [e j hj]
    match j, hj with
    | 0, _ => rw [apF_lt (by omega), apF_lt (by omega), apF_lt (by omega), apF_lt (by omega), apF_lt (by omega), apF_lt (by omega), apF_lt (by omega), apF_at (by omega)]
    | 1, _ => rw [apF_lt (by omega), apF_lt (by omega), apF_lt (by omega), apF_lt (by omega), apF_lt (by omega), apF_lt (by omega), apF_at (by omega)]
    | 2, _ => rw [apF_lt (by omega), apF_lt (by omega), apF_lt (by omega), apF_lt (by omega), apF_lt (by omega), apF_at (by omega)]
    | 3, _ => rw [apF_lt (by omega), apF_lt (by omega), apF_lt (by omega), apF_lt (by omega), apF_at (by omega)]
    | 4, _ => rw [apF_lt (by omega), apF_lt (by omega), apF_lt (by omega), apF_at (by omega)]
    | 5, _ => rw [apF_lt (by omega), apF_lt (by omega), apF_at (by omega)]
    | 6, _ => rw [apF_lt (by omega), apF_at (by omega)]
    | 7, _ => rw [apF_at (by omega)]
    | j + 8, h => exact absurd h (by omega)
theorem wrap_k1 {k : Nat} (h : k < 1000000) : IntKind.wrap IntKind.i64 ((k : Int) + 1) = ((k + 1 : Nat) : Int) := by
  rw [IntKind.wrap_i64]; omega
theorem live0 {R : Rws} {D : List Deferred} {m : AM} {a : Act} {Hr : List RBlk} {xs : List (BitVec 64)} {c : Nat} (h : PatSt R D ((8, .int .i64 false 0) :: [(2, .gsl .top 0 0 (0)), (6, .rsl 0 xs.length c), (7, .int .i64 false xs.length), (8, .int .i64 true 0)]) Try.f33.ntmps m a Hr) : PatSt R D [(2, .gsl .top 0 0 (8 * 0)), (6, .rsl 0 xs.length c), (7, .int .i64 false xs.length), (8, .int .i64 false ((0 : Nat) : Int))] Try.f33.ntmps m a Hr := patSt_live h (looks_of (by rfl)) (by kernel_rfl)
def toldV (xs : List (BitVec 64)) (i : Nat) : List Value := [.int .u8 ((byteN (xs.getD (i / 8) 0#64) (i % 8)).toNat : Int)]
set_option maxHeartbeats 4000000 in
theorem told_any (A : Option Addr) (xs : List (BitVec 64)) (c : Nat) (w : World) (hc : xs.length ≤ c) (h0 : 0 < xs.length) (hn : xs.length ≤ 1000) (hS : SlAt w A (valU xs)) : Calls Try.prog 33 #[.slice A xs.length c] w fun e w' => ∃ V, e = .returned V ∧ w'.ownsRow w.heap.size 5 1 V (8 * xs.length) ((List.range (8 * xs.length)).flatMap (toldV xs)) ∧ Below w.heap.size w w' := by
  obtain ⟨hA, hd⟩ := rowU_rd hS
  have hR := rowU_rw hA
  have hE : EnvOK (EuT A xs) := mkEnv_ok hR (by simp)
  refine ev_enter (E := (EuT A xs)) (fn := Try.f33) (c := (Try.f33.body.getD .skip)) Try.func33 (by kernel_rfl) (args := [.rsl 0 xs.length c]) (Args := [.slice A xs.length c]) (show 1 ≤ Try.f33.ntmps by decide) (.cons (.rsl (r := rowU A xs) rfl hc) .nil) hd (ds := []) (wr := allW) fun a0 hP hB => ?_
  refine ev_seqs hE 60 1 (to_a A xs c) hP hB fun a1 Hr1 w1 hP1 hB1 _ => ?_
  obtain ⟨hP1, hB1⟩ := nil_rowT (d := 2) (s := 1) (F := toldF xs) (e := 5) (by decide) (by kernel_rfl) (show 2 < Try.f33.ntmps by decide) rfl hP1 hB1
  refine wp_parts (by kernel_rfl) ?_
  refine ev_seqs hE 60 1 (to_b A xs c (toldF xs)) hP1 hB1 fun a2 Hr2 w2 hP2 hB2 _ => ?_
  have hP2a := patSt_int (d := 8) (l' := false) hP2 (by kernel_rfl) (show 8 < Try.f33.ntmps by decide) rfl
  refine wp_bk (by kernel_rfl) ?_
  refine ev_loopG (by kernel_rfl) xs.length (.exit 0) rfl (fun k : Nat => [(2, .gsl .top 0 0 (8 * k)), (6, .rsl 0 xs.length c), (7, .int .i64 false xs.length), (8, .int .i64 false ((k : Nat) : Int))]) (fun k : Nat => [AIt.row (8 * k) 1 (toldF xs) 5 none]) (live' := [(2, .gsl .top 0 0 (8 * xs.length))]) (H' := [AIt.row (8 * xs.length) 1 (toldF xs) 5 none]) (fun k hk ac Hrk wk Q' hPx hBx hnx => ?_) (fun ac Hrk wk Q' hPx hBx hnx => ?_) (live0 hP2a) hB2 fun a3 Hr3 w3 hP3 hB3 => ?_
  · refine ev_codeS hE 60 [16] .normal (by kernel_rfl) (to_l A xs c (8 * k) (toldF xs) (k : Int) (allE_cons (decide_eq_true (by omega)) (allE_cons (decide_eq_true (by omega)) (allE_cons (decide_eq_true (by omega)) (allE_cons (decide_eq_true (by omega)) (allE_cons (decide_eq_true (by omega)) (allE_cons (decide_eq_true (by omega)) (allE_cons (decide_eq_true (by omega)) (allE_cons (decide_eq_true (by omega)) (allE_cons (decide_eq_true (by omega)) (allE_cons (decide_eq_true (by omega)) (allE_cons (decide_eq_true (by omega)) (allE_cons (decide_eq_true (by omega)) (allE_cons (decide_eq_true (by omega)) (allE_cons (decide_eq_true (by omega)) (allE_cons (decide_eq_true (by omega)) (allE_cons (decide_eq_true (by omega)) (allE_cons (decide_eq_true (by omega)) (allE_cons (decide_eq_true (by omega)) allE_nil))))))))))))))))))) hPx hBx fun a' Hr' w' hP' hB' => hnx a' Hr' w' ?_ ?_
    · rw [wrap_k1 (by omega)] at hP'
      have := patSt_row (l := 0) (F' := toldF xs) rfl (Nat.le_refl _) (fun i hi => by rw [Int.toNat_natCast]; exact told_next rfl i hi) hP'
      exact this
    · exact bun_row (l := 0) rfl hB'
  · exact ev_codeS hE 60 [0] (.exit 0) (by kernel_rfl) (to_x A xs c (8 * xs.length) (toldF xs) xs.length (allE_cons (decide_eq_false (by omega)) allE_nil)) hPx hBx hnx
  refine ev_codeE hE 60 .ret (to_z A xs c (8 * xs.length) (toldF xs)) hP3 hB3 fun a4 Hr4 w4 hP4 hB4 _ => ?_
  obtain ⟨rr, vv, _, _, hBl, hAp⟩ := id hP4
  refine ev_endH hE (r := .gsl .top 0 0 (8 * xs.length)) (fun rs => by kernel_rfl) hP4 hB4 (fun V hv => ⟨V, rfl, owns_of hBl rfl hB4.own.1 hB4.fresh (by omega) (fun i hi => rfl) hv, hB4.below⟩) (.inl rfl)
end

section
theorem allE_rep : ∀ n, AllE (List.replicate n (true, true))
  | 0 => allE_nil
  | n + 1 => allE_cons rfl (allE_rep n)
theorem vals_one {v : AV} {V : Value} (h : AV.vals? [v] = some [V]) : v.val? = some V := by
  unfold AV.vals? at h
  split at h
  · rename_i e1 e2
    cases h
    exact e1
  · cases h
def num64 : List AV → Option (BitVec 64)
  | [x] => asB64 x
  | _ => none
theorem num64_vals {l : List AV} {a : BitVec 64} (h : num64 l = some a) : AV.vals? l = some [Value.int .u64 (a.toNat : Int)] := by
  unfold num64 at h
  split at h
  · rename_i v
    have key : v.val? = some (.int .u64 (a.toNat : Int)) := by
      obtain ⟨V0, h0⟩ : ∃ V0, v.val? = some V0 := by
        unfold asB64 AV.asBv at h
        split at h
        · split at h
          · rename_i e; subst e; exact ⟨_, by simp [AV.val?, IntKind.signed]; rfl⟩
          · cases h
        · exact ⟨_, rfl⟩
        · cases h
      rw [h0, asBv_sound (R := noRows) (ρ := []) h (Rel.of_val h0) rfl]
      rfl
    simp [AV.vals?, key]
  · cases h
def list64 (G : Nat → List AV) (m : Nat) : List (BitVec 64) := (List.range m).map fun i => (num64 (G i)).getD 0#64
def all64 (G : Nat → List AV) (m : Nat) : Bool := (List.range m).all fun i => (num64 (G i)).isSome
theorem list64_len (G : Nat → List AV) (m : Nat) : (list64 G m).length = m := by simp [list64]
theorem list64_slAt {R : Rws} {H : Mem} {Hr : List RBlk} {m : Nat} {y : AV} {Y : Value} {G : Nat → List AV} {cs : List Bool} (hRw : RwOK R) (hB : RelB R (nums Hr) H Hr) (h : newsA R H 1 y = some (m, G, cs)) (hcs : ∀ c ∈ cs, c = true) (hb : all64 G m = true) (hy : Rel R (nums Hr) y Y) :
    ∃ A c, Y = .slice A m c ∧ ∀ w, OwnK R H Hr w → SlAt w A (valU (list64 G m)) := by
  obtain ⟨A, c, rfl, hA⟩ := newsA_slAt (by decide) hRw hB h hcs hy
  refine ⟨A, c, rfl, fun w hO => ?_⟩
  have := hA (fun i => [Value.int .u64 (((num64 (G i)).getD 0#64).toNat : Int)]) (fun i hi => by
    have := List.all_eq_true.1 hb i (List.mem_range.2 hi)
    obtain ⟨a, ha⟩ := Option.isSome_iff_exists.1 this
    rw [num64_vals ha, ha]; rfl) w hO
  have e : valU (list64 G m) = (List.range m).flatMap fun i => [Value.int .u64 (((num64 (G i)).getD 0#64).toNat : Int)] := by
    unfold list64 valU
    rw [List.map_map, ← List.flatMap_singleton' ((List.range m).map _), List.flatMap_map]
    rfl
  rw [e]; exact this
/-- A slice whose room is known to be no less than its length. -/
def capS : AV → Bool
  | .slice _ _ n c => Nat.ble n c
  | x => longS x
theorem capS_cap {R : Rws} {ρ : Nums} {x : AV} {A : Option Addr} {m c : Nat} (h : capS x = true) (hx : Rel R ρ x (.slice A m c)) : m ≤ c := by
  unfold capS at h
  split at h
  · cases hx; exact Nat.le_of_ble_eq_true h
  · exact longS_cap h hx
def ctmTold (R : Rws) (e : TypeId) : CtmF
  | [x], H, _ => match newsA R H 1 x with
    | some (m, G, cs) => bif capS x then some (.gsl .top H.length 0 (8 * m), H ++ [.row (8 * m) 1 (toldF (list64 G m)) e none], decide (0 < m ∧ m ≤ 1000) :: all64 G m :: cs) else none
    | none => none
  | _, _, _ => none
theorem ctmTold_ok {R : Rws} (hR : RwOK R) : GoodM Try.prog R 33 (ctmTold R 5) := by
  refine ⟨enters_of Try.func33 (by kernel_rfl) rfl, fun args H wr v H' cs hv hcs Hr w Args ha hB hA hO => ?_⟩
  unfold ctmTold at hv
  split at hv
  · rename_i H'' wr' x
    split at hv
    · rename_i m G cs' hn
      cases hd : capS x <;> simp only [hd, cond_true, cond_false] at hv
      · cases hv
      · cases hv
        have hm := of_decide_eq_true (hcs _ (List.mem_cons_self ..))
        have hb := hcs _ (List.mem_cons_of_mem _ (List.mem_cons_self ..))
        cases ha with | cons a1 ha =>
        cases ha
        obtain ⟨A, c, rfl, hs⟩ := list64_slAt hR hB hn (fun c hc => hcs c (List.mem_cons_of_mem _ (List.mem_cons_of_mem _ hc))) hb a1
        have ht := told_any A (list64 G m) c w (by rw [list64_len]; exact capS_cap hd a1) (by rw [list64_len]; exact hm.1) (by rw [list64_len]; exact hm.2) (hs w hO)
        rw [list64_len] at ht
        exact ctm_of_mk (by decide) ht (fun i _ => rfl) (fun i _ v hv => by
          unfold toldV at hv
          rw [List.mem_singleton.1 hv]; rfl) (fun i _ => rfl) hB hA hO
    · cases hv
  · cases hv
def H8 (h : Nat → BitVec 64) : List (BitVec 64) := [h 0, h 1, h 2, h 3, h 4, h 5, h 6, h 7]
theorem refTold_ev (h : Nat → BitVec 64) : Is (evCall (EMb noRows) 100 20 [.agg [.bv .u64 (h 0), .bv .u64 (h 1), .bv .u64 (h 2), .bv .u64 (h 3), .bv .u64 (h 4), .bv .u64 (h 5), .bv .u64 (h 6), .bv .u64 (h 7)]] ⟨[], [], allW⟩ (mkK 128 64 1 5 ((List.range 64).map (toldF (H8 h))))) := ev_eq (List.replicate 127 (true, true)) (AV.gsl .top 128 0 64, some (64, 1, 5, (List.range 64).map (toldF (H8 h)))) (by kernel_rfl) (allE_rep _)
theorem refTold_any (h : Nat → BitVec 64) (w : World) : Calls Try.prog 20 #[.agg #[.int .u64 ((h 0).toNat : Int), .int .u64 ((h 1).toNat : Int), .int .u64 ((h 2).toNat : Int), .int .u64 ((h 3).toNat : Int), .int .u64 ((h 4).toNat : Int), .int .u64 ((h 5).toNat : Int), .int .u64 ((h 6).toNat : Int), .int .u64 ((h 7).toNat : Int)]] w fun en w' => ∃ V, en = .returned V ∧ w'.ownsRow w.heap.size 5 1 V 64 ((List.range 64).flatMap (toldV (H8 h))) ∧ Below w.heap.size w w' :=
  mk_of_ev (EMb_ok rwOK_no) 100 (refTold_ev h) (by decide) (toldV (H8 h)) (fun i hi => by
    rw [List.getD_eq_getElem?_getD, List.getElem?_map, List.getElem?_range hi]; rfl) (.cons (.agg (RelL.of_vals rfl)) .nil) w (rd_no _ _)
def ctmRTold (e : TypeId) : CtmF
  | [.agg [c0, c1, c2, c3, c4, c5, c6, c7]], H, _ => some (.gsl .top H.length 0 64, H ++ [.row 64 1 (toldF (list64 (fun i => [([c0, c1, c2, c3, c4, c5, c6, c7] : List AV).getD i .junk]) 8)) e none], [all64 (fun i => [([c0, c1, c2, c3, c4, c5, c6, c7] : List AV).getD i .junk]) 8])
  | _, _, _ => none
theorem ctmRTold_ok {R : Rws} : GoodM Try.prog R 20 (ctmRTold 5) := by
  refine ⟨enters_of Try.func20 (by kernel_rfl) rfl, fun args H wr v H' cs hv hcs Hr w Args ha hB hA hO => ?_⟩
  unfold ctmRTold at hv
  split at hv
  · rename_i H'' wr' c0 c1 c2 c3 c4 c5 c6 c7
    cases hv
    have hb := hcs _ (List.mem_singleton.2 rfl)
    cases ha with | cons a1 ha =>
    cases ha
    cases a1 with | agg a1 =>
    have hv : ∀ i, i < 8 → ∃ a, num64 [([c0, c1, c2, c3, c4, c5, c6, c7] : List AV).getD i .junk] = some a := fun i hi => Option.isSome_iff_exists.1 (List.all_eq_true.1 hb i (List.mem_range.2 hi))
    obtain ⟨b0, q0⟩ := hv 0 (by decide)
    have q0 : num64 [c0] = some b0 := q0
    obtain ⟨b1, q1⟩ := hv 1 (by decide)
    have q1 : num64 [c1] = some b1 := q1
    obtain ⟨b2, q2⟩ := hv 2 (by decide)
    have q2 : num64 [c2] = some b2 := q2
    obtain ⟨b3, q3⟩ := hv 3 (by decide)
    have q3 : num64 [c3] = some b3 := q3
    obtain ⟨b4, q4⟩ := hv 4 (by decide)
    have q4 : num64 [c4] = some b4 := q4
    obtain ⟨b5, q5⟩ := hv 5 (by decide)
    have q5 : num64 [c5] = some b5 := q5
    obtain ⟨b6, q6⟩ := hv 6 (by decide)
    have q6 : num64 [c6] = some b6 := q6
    obtain ⟨b7, q7⟩ := hv 7 (by decide)
    have q7 : num64 [c7] = some b7 := q7
    have hvals : AV.vals? [c0, c1, c2, c3, c4, c5, c6, c7] = some [.int .u64 (b0.toNat : Int), .int .u64 (b1.toNat : Int), .int .u64 (b2.toNat : Int), .int .u64 (b3.toNat : Int), .int .u64 (b4.toNat : Int), .int .u64 (b5.toNat : Int), .int .u64 (b6.toNat : Int), .int .u64 (b7.toNat : Int)] := by
      have g0 : c0.val? = some (.int .u64 (b0.toNat : Int)) := vals_one (num64_vals q0)
      have g1 : c1.val? = some (.int .u64 (b1.toNat : Int)) := vals_one (num64_vals q1)
      have g2 : c2.val? = some (.int .u64 (b2.toNat : Int)) := vals_one (num64_vals q2)
      have g3 : c3.val? = some (.int .u64 (b3.toNat : Int)) := vals_one (num64_vals q3)
      have g4 : c4.val? = some (.int .u64 (b4.toNat : Int)) := vals_one (num64_vals q4)
      have g5 : c5.val? = some (.int .u64 (b5.toNat : Int)) := vals_one (num64_vals q5)
      have g6 : c6.val? = some (.int .u64 (b6.toNat : Int)) := vals_one (num64_vals q6)
      have g7 : c7.val? = some (.int .u64 (b7.toNat : Int)) := vals_one (num64_vals q7)
      simp only [AV.vals?, g0, g1, g2, g3, g4, g5, g6, g7]
    have e := a1.vals hvals
    subst e
    have ht := refTold_any (fun i => ([b0, b1, b2, b3, b4, b5, b6, b7] : List (BitVec 64)).getD i 0#64) w
    have hl : list64 (fun i => [([c0, c1, c2, c3, c4, c5, c6, c7] : List AV).getD i .junk]) 8 = H8 (fun i => ([b0, b1, b2, b3, b4, b5, b6, b7] : List (BitVec 64)).getD i 0#64) := by
      show [(num64 [c0]).getD 0#64, (num64 [c1]).getD 0#64, (num64 [c2]).getD 0#64, (num64 [c3]).getD 0#64, (num64 [c4]).getD 0#64, (num64 [c5]).getD 0#64, (num64 [c6]).getD 0#64, (num64 [c7]).getD 0#64] = [b0, b1, b2, b3, b4, b5, b6, b7]
      simp only [q0, q1, q2, q3, q4, q5, q6, q7, Option.getD_some]
    rw [hl]
    exact ctm_of_mk (by decide) ht (fun i _ => rfl) (fun i _ v hv => by
      unfold toldV at hv
      rw [List.mem_singleton.1 hv]; rfl) (fun i _ => rfl) hB hA hO
  · cases hv
end
end Go.Proofs.Ytjlijocnmicdpaa
