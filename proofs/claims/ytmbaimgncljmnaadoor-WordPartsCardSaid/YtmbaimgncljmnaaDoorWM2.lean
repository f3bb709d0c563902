/- Merged texts: CBld CWb CTxt CTx CWoAdd CSpP. No condition. -/
import Derived.Test.YtmbaimgncljmnaaDoorKit
import Derived.Shelf.Strings.Builder1
import Derived.Test.YtmbaimgncljmnaaDoorWM1
import Derived.Deep.MidRow
import Derived.Laws.Cover3
import Derived.Deep.WholeRow
import Derived.Test.YtmbaimgncljmnaaDoorRngB
import Derived.Test.YtmbaimgncljmnaaDoorShelf01
import Derived.Test.YtmbaimgncljmnaaDoorSl
import Derived.Test.YtmbaimgncljmnaaDoorReg
set_option linter.unusedVariables false
set_option linter.unusedSimpArgs false
namespace Go.Proofs.YtmbaimgncljmnaaDoor
open Go.RowKit

section
theorem bld_ptr : Tryd.prog.underlying 59 = some (.pointer 61) := by kernel_rfl
theorem bld_uns : Tryd.prog.underlying 89 = some .unsafePointer := by kernel_rfl
theorem bld_size : (Tryd.prog.info? 61).map (·.size) = some 2 := by kernel_rfl
theorem bld_lies : liesAt Tryd.prog Tryd.prog.depth 61 (2 / Tryd.prog.cellsOf 61) 0 61 1 = true := by kernel_rfl
theorem bld_bytes : Tryd.prog.underlying 30 = some (.slice 5) := by kernel_rfl
theorem bld_info : (Tryd.prog.info? 5).map (fun i => (i.zero, i.size, i.bytes)) = some (some (.int .u8 0), 1, 1) := by kernel_rfl
set_option maxHeartbeats 1000000 in
set_option maxRecDepth 100000 in
theorem bcc_used (b : Nat) (w : World) (h0 : w.cell? ⟨b, 0, none⟩ = some (.pointer (some ⟨b, 0, none⟩))) :
    Calls Tryd.prog 41 #[.pointer (some ⟨b, 0, none⟩)] w fun e w' => e = .returned (.tuple #[]) ∧ w' = w := by
  obtain ⟨j, hj, _⟩ := Option.map_eq_some_iff.1 bld_size
  go_enter Tryd.func41, Tryd.ntmps41
  go_wp2
  rw [Lib.run_neq_ptr_same w _ bld_ptr hj]
  go_wp2
  go_end0
  exact ⟨rfl, rfl⟩
set_option maxHeartbeats 1000000 in
set_option maxRecDepth 100000 in
theorem bcc_fresh (b : Nat) (w : World) (h0 : w.cell? ⟨b, 0, none⟩ = some (.pointer none)) (hsh : w.shape? b = some (61, 2)) (hfz : w.frozen? ⟨b, 0, none⟩ = false) :
    Calls Tryd.prog 41 #[.pointer (some ⟨b, 0, none⟩)] w fun e w' => e = .returned (.tuple #[]) ∧ w' = w.setCell ⟨b, 0, none⟩ (.pointer (some ⟨b, 0, none⟩)) := by
  obtain ⟨j, hj, hjs⟩ := Option.map_eq_some_iff.1 bld_size
  go_enter Tryd.func41, Tryd.ntmps41
  go_wp2
  rw [Lib.run_to_unsafe w ⟨b, 0, none⟩ bld_ptr bld_uns hj (by rw [hjs]; decide) hsh (Nat.zero_lt_succ 1)]
  simp only [Result.andThen]
  rw [Oper.upon_value]
  go_wp2
  rw [run_callFunc_extern Tryd.func50 (by kernel_rfl) (by kernel_rfl) (by kernel_rfl) (e := Extern.AbiNoEscape.same) (by kernel_rfl)]
  rw [Lib.run_noEscape]
  simp only [Result.andThen]
  rw [Oper.upon_value]
  go_wp2
  rw [Lib.run_from_unsafe w ⟨b, 0, none⟩ bld_uns bld_ptr hj hsh bld_lies]
  simp only [Result.andThen]
  rw [Oper.upon_value]
  go_wp2
  go_end0
  exact ⟨rfl, rfl⟩
theorem bcc_any (B b : Nat) (bs : List Value) (w : World) (h : Lib.IsBuilder 61 5 B b bs w) :
    Calls Tryd.prog 41 #[.pointer (some ⟨b, 0, none⟩)] w fun e w' => e = .returned (.tuple #[]) ∧ (Lib.BuilderAt 61 5 B b (.pointer (some ⟨b, 0, none⟩)) bs w' ∧ Below B w w') := by
  rcases h with h | h
  · refine (bcc_fresh b w h.cell0 h.shape h.frozen0).mono ?_
    rintro e w' ⟨rfl, rfl⟩
    exact ⟨rfl, h.used _, (Below.refl B w).setCell (p := ⟨b, 0, none⟩) h.1 _⟩
  · refine (bcc_used b w h.cell0).mono ?_
    rintro e w' ⟨rfl, rfl⟩
    exact ⟨rfl, h, Below.refl B _⟩
set_option maxHeartbeats 2000000 in
set_option maxRecDepth 100000 in
theorem bwb_any (B b : Nat) (bs : List Value) (c : Int) (w : World) (h : Lib.IsBuilder 61 5 B b bs w) (hlen : bs.length + 1 ≤ 140737488355328) (hBw : B ≤ w.heap.size) :
    Calls Tryd.prog 28 #[.pointer (some ⟨b, 0, none⟩), .int .u8 c] w fun e w' => e = .returned .nilIface ∧ (Lib.BuilderAt 61 5 B b (.pointer (some ⟨b, 0, none⟩)) (bs ++ [.int .u8 c]) w' ∧ Below B w w') := by
  obtain ⟨i0, hi, hz0, hz1, hz2⟩ := info_parts bld_info
  have e240 : ∀ args w, (callFunc 41 args).run Tryd.prog w = .ok (.enter 41 args) w := enters_of Tryd.func41 (by kernel_rfl) rfl
  go_enter Tryd.func28, Tryd.ntmps28
  go_wp2_with (go_at_fn 41; refine (bcc_any B b bs _ h).mono ?_)
  rintro e w1 ⟨rfl, h1, hb1⟩
  obtain ⟨hB, v, hbk, hown, hne⟩ := h1
  have c0 : w1.cell? ⟨b, 0, none⟩ = some (.pointer (some ⟨b, 0, none⟩)) := by rw [Lib.cell_of_heap hbk]; rfl
  have c1 : w1.cell? ⟨b, 1, none⟩ = some v := by rw [Lib.cell_of_heap hbk]; rfl
  go_wp2_with (at_builtin; refine wpList_append_own _ rfl _ _ 30 rfl B 5 i0 (.int .u8 0) 1 1 bld_bytes hi hz0 hz1 hz2 rfl (by decide) _ _ _ rfl (hown.alloc _) ⟨w1.heap.size, 0, none⟩ 1 1 [.int .u8 c] rfl rfl ?c1 ?c2 ?c3 ?c4 ?c5 ?_)
  case c1 =>
    intro j u hj
    match j, hj with
    | 0, hj => simp at hj; subst hj; simp [Addr.add]
  case c2 => intro u hu; simp at hu; subst hu; rfl
  case c3 => unfold maxLen; omega
  case c4 => omega
  case c5 => have := hb1.size; simp; omega
  intro v' w2 hown' hgrow _
  have hlt : b < w1.heap.size := by
    rcases Nat.lt_or_ge b w1.heap.size with h' | h'
    · exact h'
    · simp [Array.getElem?_eq_none h'] at hbk
  have hb2 : w2.heap[b]? = some (.cells #[.pointer (some ⟨b, 0, none⟩), v] 61 (0, 0)) := by
    rw [hgrow.block b (by simp; omega) (fun e => hne e.symm), Lib.alloc_old w1 _ b hlt]
    exact hbk
  have d0 : w2.cell? ⟨b, 0, none⟩ = some (.pointer (some ⟨b, 0, none⟩)) := by rw [Lib.cell_of_heap hb2]; rfl
  have d1 : w2.cell? ⟨b, 1, none⟩ = some v := by rw [Lib.cell_of_heap hb2]; rfl
  have f1 : w2.frozen? ⟨b, 1, none⟩ = false := Lib.frozen_of_heap hb2 1
  obtain ⟨g, cap, rfl⟩ : ∃ g cap, v' = .slice (some ⟨g, 0, none⟩) (bs.length + 1) cap := by
    rcases hown'.2 with ⟨_, h0⟩ | ⟨g, cap, cur, hv, _⟩
    · omega
    · exact ⟨g, cap, hv⟩
  go_wp2
  go_ret
  refine ⟨rfl, ?_, ?_⟩
  · exact Lib.BuilderAt.put (T := 61) (e := 5) hB hb2 (bs' := bs ++ [.int .u8 c]) (by simpa using hown') (by decide)
  · exact ((hb1.alloc (by have := hb1.size; omega) _).grown hgrow (by have := hb1.size; simp; omega) (fun k hk => (hown.lt k hk).1)).setCell (p := ⟨b, 1, none⟩) hB _
/-- A builder at b whose bytes lie in a row from B on. -/
def BldX (b B : Nat) (bs : List Value) (w : World) : Prop := b < B ∧ ∃ p v, (p = .pointer none ∨ p = .pointer (some ⟨b, 0, none⟩)) ∧ w.heap[b]? = some (.cells #[p, v] 61 (0, 0)) ∧ w.ownsRow B 5 1 v bs.length bs
/-- What lies below B stays, but for b. -/
structure KeptX (b B : Nat) (w w' : World) : Prop where
  os : w'.os = w.os
  tape : w'.tape = w.tape
  output : w'.output = w.output
  size : w.heap.size ≤ w'.heap.size
  block : ∀ k, k < B → k ≠ b → w'.heap[k]? = w.heap[k]?
theorem KeptX.refl (b B : Nat) (w : World) : KeptX b B w w := ⟨rfl, rfl, rfl, Nat.le_refl _, fun _ _ _ => rfl⟩
theorem KeptX.trans {b B : Nat} {u v w : World} (h : KeptX b B u v) (g : KeptX b B v w) : KeptX b B u w := ⟨g.os.trans h.os, g.tape.trans h.tape, g.output.trans h.output, Nat.le_trans h.size g.size, fun k h1 h2 => (g.block k h1 h2).trans (h.block k h1 h2)⟩
theorem KeptX.below {b B n : Nat} {w w' : World} (h : KeptX b B w w') (hn : n ≤ b) (hb : b < B) : Below n w w' := ⟨h.os, h.tape, h.output, h.size, fun k hk => h.block k (by omega) (by omega)⟩
theorem ownsRow_base {w : World} {B B' : Nat} {e : TypeId} {size n : Nat} {v : Value} {xs : List Value} (h : w.ownsRow B e size v n xs) (hB : B' ≤ B) : w.ownsRow B' e size v n xs :=
  ⟨h.1, h.2.imp id fun ⟨g, cap, cur, h1, h2, h3⟩ => ⟨g, cap, cur, h1, by omega, h3⟩⟩
theorem BldX.isb {b B : Nat} {bs : List Value} {w : World} (h : BldX b B bs w) : Lib.IsBuilder 61 5 b b bs w := by
  obtain ⟨hb, p, v, hp, hh, ho⟩ := h
  have hne : v.ownBlock ≠ some b := fun e => by have := (ho.lt b e).1; omega
  rcases hp with rfl | rfl
  · exact .inl ⟨Nat.le_refl _, v, hh, ownsRow_base ho (Nat.le_of_lt hb), hne⟩
  · exact .inr ⟨Nat.le_refl _, v, hh, ownsRow_base ho (Nat.le_of_lt hb), hne⟩
set_option maxHeartbeats 1000000 in
theorem bccX (b B : Nat) (bs : List Value) (w : World) (h : BldX b B bs w) :
    Calls Tryd.prog 41 #[.pointer (some ⟨b, 0, none⟩)] w fun e w' => e = .returned (.tuple #[]) ∧ BldX b B bs w' ∧ KeptX b B w w' ∧ w'.cell? ⟨b, 0, none⟩ = some (.pointer (some ⟨b, 0, none⟩)) := by
  have hi := h.isb
  obtain ⟨hb, p, v, hp, hh, ho⟩ := h
  rcases hp with rfl | rfl
  · have c0 : w.cell? ⟨b, 0, none⟩ = some (.pointer none) := by rw [Lib.cell_of_heap hh]; rfl
    have hsh : w.shape? b = some (61, 2) := by simp [World.shape?, hh]
    refine (bcc_fresh b w c0 hsh (Lib.frozen_of_heap hh 0)).mono ?_
    rintro e w' ⟨rfl, rfl⟩
    have hne : v.ownBlock ≠ some b := fun e => by have := (ho.lt b e).1; omega
    have hh' : (w.setCell ⟨b, 0, none⟩ (.pointer (some ⟨b, 0, none⟩))).heap[b]? = some (.cells #[.pointer (some ⟨b, 0, none⟩), v] 61 (0, 0)) := by
      have hlt := (Array.getElem?_eq_some_iff.1 hh).1
      simp [World.setCell, Array.getElem?_modify, hh]
    refine ⟨rfl, ⟨hb, _, v, .inr rfl, hh', ho.kept (row := some b) ⟨rfl, rfl, rfl, by simp, fun k _ hk => Below.heap_setCell w ⟨b, 0, none⟩ _ k (fun e => hk (by rw [e]))⟩ (.inr (fun e => hne e))⟩, ⟨rfl, rfl, rfl, by simp, fun k _ hk => Below.heap_setCell w ⟨b, 0, none⟩ _ k (fun e => hk (by rw [e]))⟩, by rw [Lib.cell_of_heap hh']; rfl⟩
  · have c0 : w.cell? ⟨b, 0, none⟩ = some (.pointer (some ⟨b, 0, none⟩)) := by rw [Lib.cell_of_heap hh]; rfl
    refine (bcc_used b w c0).mono ?_
    rintro e w' ⟨rfl, rfl⟩
    exact ⟨rfl, ⟨hb, _, v, .inr rfl, hh, ho⟩, KeptX.refl _ _ _, c0⟩
set_option maxHeartbeats 2000000 in
set_option maxRecDepth 100000 in
theorem bwbX (b B : Nat) (bs : List Value) (c : Int) (w : World) (h : BldX b B bs w) (hlen : bs.length + 1 ≤ 140737488355328) (hBw : B ≤ w.heap.size) :
    Calls Tryd.prog 28 #[.pointer (some ⟨b, 0, none⟩), .int .u8 c] w fun e w' => e = .returned .nilIface ∧ BldX b B (bs ++ [.int .u8 c]) w' ∧ KeptX b B w w' := by
  obtain ⟨i0, hi, hz0, hz1, hz2⟩ := info_parts bld_info
  have e240 : ∀ args w, (callFunc 41 args).run Tryd.prog w = .ok (.enter 41 args) w := enters_of Tryd.func41 (by kernel_rfl) rfl
  go_enter Tryd.func28, Tryd.ntmps28
  go_wp2_with (go_at_fn 41; refine (bccX b B bs _ h).mono ?_)
  rintro e w1 ⟨rfl, h1, hk1, c0⟩
  obtain ⟨hb, p, v, hp, hbk, hown⟩ := h1
  have hne : v.ownBlock ≠ some b := fun e => by have := (hown.lt b e).1; omega
  obtain rfl : p = .pointer (some ⟨b, 0, none⟩) := by
    rw [Lib.cell_of_heap hbk] at c0; simpa using c0
  have c1 : w1.cell? ⟨b, 1, none⟩ = some v := by rw [Lib.cell_of_heap hbk]; rfl
  have hs1 := hk1.size
  go_wp2_with (at_builtin; refine wpList_append_own _ rfl _ _ 30 rfl B 5 i0 (.int .u8 0) 1 1 bld_bytes hi hz0 hz1 hz2 rfl (by decide) _ _ _ rfl (hown.alloc _) ⟨w1.heap.size, 0, none⟩ 1 1 [.int .u8 c] rfl rfl ?c1 ?c2 ?c3 ?c4 ?c5 ?_)
  case c1 =>
    intro j u hj
    match j, hj with
    | 0, hj => simp at hj; subst hj; simp [Addr.add]
  case c2 => intro u hu; simp at hu; subst hu; rfl
  case c3 => unfold maxLen; omega
  case c4 => omega
  case c5 => simp; omega
  intro v' w2 hown' hgrow _
  have hlt : b < w1.heap.size := (Array.getElem?_eq_some_iff.1 hbk).1
  have hb2 : w2.heap[b]? = some (.cells #[.pointer (some ⟨b, 0, none⟩), v] 61 (0, 0)) := by
    rw [hgrow.block b (by simp; omega) (fun e => hne e.symm), Lib.alloc_old w1 _ b hlt]
    exact hbk
  have hk2 : KeptX b B w w2 := hk1.trans ⟨hgrow.os, hgrow.tape, hgrow.output, Nat.le_trans (by simp) hgrow.size, fun k h1 h2 => by
    rw [hgrow.block k (by simp; omega) (fun e => by have := (hown.lt k e.symm).1; omega), Lib.alloc_old w1 _ k (by omega)]⟩
  have d0 : w2.cell? ⟨b, 0, none⟩ = some (.pointer (some ⟨b, 0, none⟩)) := by rw [Lib.cell_of_heap hb2]; rfl
  have d1 : w2.cell? ⟨b, 1, none⟩ = some v := by rw [Lib.cell_of_heap hb2]; rfl
  have f1 : w2.frozen? ⟨b, 1, none⟩ = false := Lib.frozen_of_heap hb2 1
  have hne' : v'.ownBlock ≠ some b := fun e => by have := (hown'.lt b e).1; omega
  obtain ⟨g, cap, rfl⟩ : ∃ g cap, v' = .slice (some ⟨g, 0, none⟩) (bs.length + 1) cap := by
    rcases hown'.2 with ⟨_, h0⟩ | ⟨g, cap, cur, hv, _⟩
    · omega
    · exact ⟨g, cap, hv⟩
  go_wp2
  go_ret
  refine ⟨rfl, ⟨hb, .pointer (some ⟨b, 0, none⟩), .slice (some ⟨g, 0, none⟩) (bs.length + 1) cap, .inr rfl, ?_, ?_⟩, hk2.trans ⟨rfl, rfl, rfl, by simp, fun k _ hk => Below.heap_setCell w2 ⟨b, 1, none⟩ _ k (fun e => hk (by rw [e]))⟩⟩
  · simp [World.setCell, Array.getElem?_modify, hb2]
  · have := hown'.kept (w' := w2.setCell ⟨b, 1, none⟩ (.slice (some ⟨g, 0, none⟩) (bs.length + 1) cap)) (row := some b) ⟨rfl, rfl, rfl, by simp, fun k _ hk => Below.heap_setCell w2 ⟨b, 1, none⟩ _ k (fun e => hk (by rw [e]))⟩ (.inr (fun e => hne' e))
    simpa using this
end

section
theorem tinfo_byte : (Tryd.prog.info? 5).map (fun i => (i.zero, i.size, i.bytes)) = some (some (.int .u8 0), 1, 1) := by kernel_rfl
theorem under_bytes : Tryd.prog.underlying 30 = some (.slice 5) := by kernel_rfl
def byteC (c : Int) : List Value := [.int .u8 c]
theorem news_at (w : World) (c : Array Value) (t : TypeId) : ∀ j u, c.toList[j]? = some u → (w.alloc (.cells c t)).cell? ((⟨w.heap.size, 0, none⟩ : Addr).add j) = some u := fun j u h => by
  rw [Addr.add_lit, Nat.zero_add, World.cell?_alloc_at _ _ _ _ rfl]; simpa using h
theorem bytesC_take {xs : List Int} {i : Nat} {x : Int} (h : xs[i]? = some x) : bytesC (xs.take (i + 1)) = bytesC (xs.take i) ++ [.int .u8 x] := by
  rw [List.take_add_one, h]; simp [bytesC]
set_option maxRecDepth 20000 in
set_option maxHeartbeats 1000000 in
theorem wordBytes_any (x : Nat → Nat) (w : World) (hx : ∀ q, x q < 2 ^ 64) :
    Calls Tryd.prog 11 #[.agg (limbs x)] w (Gives w (bytesC (wbs x)) 32) := by
  obtain ⟨i0, hi, hz0, hz1, hz2⟩ := info_parts tinfo_byte
  have HX := Lib.hid hx
  clear hx
  go_enter Tryd.func11, Tryd.ntmps11
  go_wp2_with (first | (at_make; refine wpList_make_own _ rfl _ _ 30 rfl (w.heap.size + 1) 5 i0 _ 1 under_bytes hi hz0 hz1 _ _ _ 32 rfl rfl (by omega) (by rw [hz2]; omega) (by simp only [maxLen]; omega) (by simp) ?_))
  intro w1 hownS hgrow
  have hb1 : Below (w.heap.size + 1) (w.alloc (.cells (limbs x) 26)) w1 := (Below.refl _ _).grown hgrow (by simp) (fun k hk => by cases hk)
  clear hgrow
  go_wp2_with fail
  go_loopw [3, 4] (fun v i wr => WbRel x w v i wr) (fun _ i _ => (intOf i + 1).toNat)
  case atStart => exact ⟨0, Nat.zero_le _, rfl, by simpa [bytesC] using hownS, hb1⟩
  case round =>
    obtain ⟨k, hk, rfl, hown, hb⟩ := hrel
    by_cases hlt : k < 32
    · obtain ⟨m, hm⟩ : ∃ m : Nat, m + k = 31 := ⟨31 - k, by omega⟩
      have hmi : (31 : Int) - (k : Int) = ((m : Nat) : Int) := by omega
      rw [hmi]
      have hc : wr.cell? ⟨w.heap.size, m / 8, none⟩ = some (.int .u64 (x (m / 8) : Nat)) := (hb.cell (p := ⟨w.heap.size, m / 8, none⟩) (by simp)).trans (newc _ _ _ _ (limbs_at x (by omega)))
      have hv : ((byteAt x m : Nat) : Int) = ((x (m / 8) : Nat) : Int) / 2 ^ (8 * (m % 8)) % 256 := by unfold byteAt; simp
      have hbt : (wbs x)[k]? = some (((x (m / 8) : Nat) : Int) / 2 ^ (8 * (m % 8)) % 256) := by
        rw [← hv]; simp [wbs, hlt, show 31 - k = m by omega]
      have HT := Lib.hid hbt
      have hsz := hb.size
      simp only [World.size_alloc] at hsz
      clear hv hbt
      go_wp2_with (first | (at_builtin; refine wpList_append_own _ rfl _ _ 30 rfl (w.heap.size + 1) 5 i0 _ 1 1 under_bytes hi hz0 hz1 hz2 rfl (by decide) _ _ _ rfl (hown.alloc _) ⟨wr.heap.size, 0, none⟩ 1 1 (byteC (((x (m / 8) : Nat) : Int) / 2 ^ (8 * (m % 8)) % 256)) rfl rfl (news_at _ _ _) (by simp [byteC, Value.oneCell']) (by simp only [maxLen]; omega) (by omega) (by first | omega | (simp; omega)) ?_))
      intro v3 w3 hown3 hg3 _
      have hb3 : Below (w.heap.size + 1) (w.alloc (.cells (limbs x) 26)) w3 := below_grown (hb.alloc (by first | omega | (simp; omega)) _) (hown.alloc _) hg3 (by first | omega | (simp; omega)) (Nat.le_refl _)
      have hown4 : w3.ownsRow (w.heap.size + 1) 5 1 v3 (k + 1) (bytesC ((wbs x).take (k + 1))) := by
        rw [bytesC_take HT.out]; exact hown3
      clear hown3 hg3 hc hsz hown hb
      go_wp2_with fail
      exact ⟨⟨k + 1, by omega, by go_num, hown4, hb3⟩, by first | (simp [intOf]; done) | (simp [intOf]; omega)⟩
    · obtain rfl : k = 32 := by omega
      rw [List.take_of_length_le (by simp [wbs])] at hown
      obtain ⟨A', c', rfl, hs, hc, hT⟩ := slice_of_owns hown
      have hbw : Below w.heap.size w wr := (World.below_alloc w _).trans (hb.mono (by omega))
      clear hown hb
      go_wp2_with fail
      go_ret
      exact ⟨_, _, rfl, hs, hc, hbw, hT.mono (by first | omega | (simp; done) | (simp; omega))⟩
set_option maxRecDepth 20000 in
set_option maxHeartbeats 1000000 in
theorem wbOwn_any (x : Nat → Nat) (w : World) (hx : ∀ q, x q < 2 ^ 64) :
    Calls Tryd.prog 11 #[.agg (limbs x)] w fun e w' => ∃ v, e = .returned v ∧ w'.ownsRow (w.heap.size + 1) 5 1 v 32 (bytesC (wbs x)) ∧ Below w.heap.size w w' := by
  obtain ⟨i0, hi, hz0, hz1, hz2⟩ := info_parts tinfo_byte
  have HX := Lib.hid hx
  clear hx
  go_enter Tryd.func11, Tryd.ntmps11
  go_wp2_with (first | (at_make; refine wpList_make_own _ rfl _ _ 30 rfl (w.heap.size + 1) 5 i0 _ 1 under_bytes hi hz0 hz1 _ _ _ 32 rfl rfl (by omega) (by rw [hz2]; omega) (by simp only [maxLen]; omega) (by simp) ?_))
  intro w1 hownS hgrow
  have hb1 : Below (w.heap.size + 1) (w.alloc (.cells (limbs x) 26)) w1 := (Below.refl _ _).grown hgrow (by simp) (fun k hk => by cases hk)
  clear hgrow
  go_wp2_with fail
  go_loopw [3, 4] (fun v i wr => WbRel x w v i wr) (fun _ i _ => (intOf i + 1).toNat)
  case atStart => exact ⟨0, Nat.zero_le _, rfl, by simpa [bytesC] using hownS, hb1⟩
  case round =>
    obtain ⟨k, hk, rfl, hown, hb⟩ := hrel
    by_cases hlt : k < 32
    · obtain ⟨m, hm⟩ : ∃ m : Nat, m + k = 31 := ⟨31 - k, by omega⟩
      have hmi : (31 : Int) - (k : Int) = ((m : Nat) : Int) := by omega
      rw [hmi]
      have hc : wr.cell? ⟨w.heap.size, m / 8, none⟩ = some (.int .u64 (x (m / 8) : Nat)) := (hb.cell (p := ⟨w.heap.size, m / 8, none⟩) (by simp)).trans (newc _ _ _ _ (limbs_at x (by omega)))
      have hv : ((byteAt x m : Nat) : Int) = ((x (m / 8) : Nat) : Int) / 2 ^ (8 * (m % 8)) % 256 := by unfold byteAt; simp
      have hbt : (wbs x)[k]? = some (((x (m / 8) : Nat) : Int) / 2 ^ (8 * (m % 8)) % 256) := by
        rw [← hv]; simp [wbs, hlt, show 31 - k = m by omega]
      have HT := Lib.hid hbt
      have hsz := hb.size
      simp only [World.size_alloc] at hsz
      clear hv hbt
      go_wp2_with (first | (at_builtin; refine wpList_append_own _ rfl _ _ 30 rfl (w.heap.size + 1) 5 i0 _ 1 1 under_bytes hi hz0 hz1 hz2 rfl (by decide) _ _ _ rfl (hown.alloc _) ⟨wr.heap.size, 0, none⟩ 1 1 (byteC (((x (m / 8) : Nat) : Int) / 2 ^ (8 * (m % 8)) % 256)) rfl rfl (news_at _ _ _) (by simp [byteC, Value.oneCell']) (by simp only [maxLen]; omega) (by omega) (by first | omega | (simp; omega)) ?_))
      intro v3 w3 hown3 hg3 _
      have hb3 : Below (w.heap.size + 1) (w.alloc (.cells (limbs x) 26)) w3 := below_grown (hb.alloc (by first | omega | (simp; omega)) _) (hown.alloc _) hg3 (by first | omega | (simp; omega)) (Nat.le_refl _)
      have hown4 : w3.ownsRow (w.heap.size + 1) 5 1 v3 (k + 1) (bytesC ((wbs x).take (k + 1))) := by
        rw [bytesC_take HT.out]; exact hown3
      clear hown3 hg3 hc hsz hown hb
      go_wp2_with fail
      exact ⟨⟨k + 1, by omega, by go_num, hown4, hb3⟩, by first | (simp [intOf]; done) | (simp [intOf]; omega)⟩
    · obtain rfl : k = 32 := by omega
      rw [List.take_of_length_le (by simp [wbs])] at hown
      have hbw : Below w.heap.size w wr := (World.below_alloc w _).trans (hb.mono (by omega))
      clear hb
      go_wp2_with fail
      go_ret
      exact ⟨_, rfl, hown, hbw⟩
end

section
def txD (f : Nat → Nat) (k : Nat) : Nat := (if k % 2 = 0 then f (k / 2) / 16 else f (k / 2)) % 16
def hexD : ByteArray := ⟨#[48, 49, 50, 51, 52, 53, 54, 55, 56, 57, 97, 98, 99, 100, 101, 102]⟩
def txS (f : Nat → Nat) : Nat → ByteArray
  | 0 => ⟨#[]⟩
  | k + 1 => if txS f k ≠ ⟨#[]⟩ ∨ 0 < txD f k ∨ k = 63 then txS f k ++ hexD.extract (txD f k) (txD f k + 1) else txS f k
theorem txS_size (f : Nat → Nat) : ∀ k, (txS f k).size ≤ k
  | 0 => Nat.le_refl _
  | k + 1 => by
    have := txS_size f k
    unfold txS
    split
    · rw [ByteArray.size_append, ByteArray.size_extract]; omega
    · omega
theorem txS_succ (f : Nat → Nat) (k : Nat) : txS f (k + 1) = if txS f k ≠ ⟨#[]⟩ ∨ 0 < txD f k ∨ k = 63 then txS f k ++ hexD.extract (txD f k) (txD f k + 1) else txS f k := rfl
theorem txS_zero (f : Nat → Nat) : txS f 0 = ⟨#[]⟩ := rfl
attribute [local irreducible] txS
def TxRel (f : Nat → Nat) (W : World) (s i : Value) (wr : World) : Prop := ∃ k : Nat, k ≤ 64 ∧ i = .int .i64 k ∧ s = .string (txS f k) ∧ W = wr
set_option maxRecDepth 20000 in
set_option maxHeartbeats 4000000 in
theorem refText_any (x : Nat → Nat) (w : World) (hx : ∀ q, x q < 2 ^ 64) :
    Calls Tryd.prog 13 #[.agg (limbs x)] w fun e w' => e = .returned (.string (⟨#[48, 120]⟩ ++ txS (fun j => byteAt x (31 - j)) 64)) ∧ Below w.heap.size w w' := by
  have hf0 : ∀ j, byteAt x (31 - j) < 256 := fun j => Nat.mod_lt _ (by decide)
  obtain ⟨f, hfe⟩ : ∃ f : Nat → Nat, f = fun j => byteAt x (31 - j) := ⟨_, rfl⟩
  have hf : ∀ j, f j < 256 := by rw [hfe]; exact hf0
  have HB := Lib.hid (fun V => show Calls Tryd.prog 10 #[.agg (limbs x)] V fun e w' => e = .returned (.agg (arr32 fun j => ((f j : Nat) : Int))) ∧ Below V.heap.size V w' by rw [hfe]; exact refWordBytes_any x V hx)
  rw [← hfe]
  have hi3 : (Tryd.prog.info? 31).map (·.size) = some 32 := by kernel_rfl
  have HI3 := Lib.hid hi3
  clear hx hi3 hfe hf0
  go_enter Tryd.func13, Tryd.ntmps13
  go_wp2_with fail
  refine (HB.out _).mono ?_
  rintro e w1 ⟨rfl, hb1⟩
  have hb0 : Below w.heap.size w w1 := (World.below_alloc w _).trans (hb1.mono (by simp))
  have HNW := Lib.hid (show Blk (w1.alloc (.cells (arr32 fun _ => 0) 31)) w1.heap.size (arr32 fun _ => 0) 31 from heap_alloc_new _ _)
  have HB0 := Lib.hid hb0
  clear hb1 hb0
  go_wp2_with (first
    | (refine wpList_store_row rfl 31 (.tmp 3) (.tmp 8) (by with_reducible rfl) _ _ rfl rfl _ _ HNW.out HI3.out rfl (by simp [Value.oneCell']) ?_))
  refine wp_name fun V hV => ?_
  have hBV : Below w.heap.size w V := by
    rw [hV]
    exact below_setRow (HB0.out.trans ((World.below_alloc w1 _).mono HB0.out.size)) HB0.out.size _
  have hv1 : Blk V w1.heap.size (arr32 fun j => ((f j : Nat) : Int)) 31 := by rw [hV]; exact setRow_heap _ _ _ _ _ _ HNW.out
  have HV1 := Lib.hid hv1
  have HBV := Lib.hid hBV
  have hlv := hv1.lt
  generalize w1.heap.size = b at *
  clear hV hBV hv1 HNW HB0
  go_loopw [4, 5] (fun s i wr => TxRel f V s i wr) (fun _ i _ => 64 - (intOf i).toNat)
  case atStart => exact ⟨0, Nat.zero_le _, rfl, by rw [txS_zero], rfl⟩
  case round =>
    obtain ⟨k, hk, rfl, rfl, rfl⟩ := hrel
    by_cases hlt : k < 64
    · have hc := (HV1.out.cell (k / 2)).trans (arr32_at (fun j => ((f j : Nat) : Int)) (show k / 2 < 32 by omega))
      have hfk := hf (k / 2)
      have HSU := Lib.hid (show txS f (k + 1) = if txS f k ≠ ⟨#[]⟩ ∨ 0 < txD f k ∨ k = 63 then txS f k ++ hexD.extract (txD f k) (txD f k + 1) else txS f k from txS_succ f k)
      have hsz := txS_size f k
      have hd16 : txD f k < 16 := Nat.mod_lt _ (by decide)
      have hdv : (txD f k : Int) = ((if k % 2 = 0 then f (k / 2) / 16 else f (k / 2)) % 16 : Nat) := rfl
      generalize txD f k = d at *
      generalize txS f k = s at *
      generalize hs1e : txS f (k + 1) = s1 at *
      generalize f (k / 2) = fk at *
      have hW : ((fk : Nat) : Int) / 16 % 16 = ((fk / 16 % 16 : Nat) : Int) := by omega
      by_cases hev : k % 2 = 0
      · rw [if_pos hev] at hdv
        have hm : ((k : Nat) : Int) % 2 = 0 := by omega
        have hdd : ((fk : Nat) : Int) / 16 % 16 = ((d : Nat) : Int) := by omega
        clear hdv hf hW
        go_upto_region 10 with (fail)
        rw [hdd]
        clear hdd
        by_cases hs : s.toList = []
        · have hs1 : (s.toList == []) = true := by simpa using hs
          have hse : s = ⟨#[]⟩ := by
            cases s with | mk a => cases a with | mk l =>
              simp only [ByteArray.toList_eq] at hs
              subst hs
              rfl
          have HE := Lib.hid hse
          clear hs hse
          by_cases h63 : k = 63
          · have hb : (((k : Nat) : Int) == 63) = true := by simp; omega
            have HS := Lib.hid (show s1 = s ++ hexD.extract d (d + 1) by rw [HSU.out, if_pos (.inr (.inr h63))])
            clear HSU HB HE
            by_cases hd : 0 < d
            · have hd1 : decide (0 < d) = true := by simpa using hd
              clear h63
              go_wp2_with fail
              exact ⟨⟨k + 1, by omega, rfl, by rw [hs1e, HS.out]; rfl, rfl⟩, by simp [intOf]; omega⟩
            · have hd1 : decide (0 < d) = false := by simpa using hd
              clear h63
              go_wp2_with fail
              exact ⟨⟨k + 1, by omega, rfl, by rw [hs1e, HS.out]; rfl, rfl⟩, by simp [intOf]; omega⟩
          · have hb : (((k : Nat) : Int) == 63) = false := by simp; omega
            by_cases hd : 0 < d
            · have HS := Lib.hid (show s1 = s ++ hexD.extract d (d + 1) by rw [HSU.out, if_pos (.inr (.inl hd))])
              have hd1 : decide (0 < d) = true := by simpa using hd
              clear HSU HB HE h63
              go_wp2_with fail
              exact ⟨⟨k + 1, by omega, rfl, by rw [hs1e, HS.out]; rfl, rfl⟩, by simp [intOf]; omega⟩
            · have HS := Lib.hid (show s1 = s by rw [HSU.out, if_neg (by rintro (h | h | h); exact h HE.out; exact hd h; exact h63 h)])
              have hd1 : decide (0 < d) = false := by simpa using hd
              clear HSU HB HE h63
              go_wp2_with fail
              exact ⟨⟨k + 1, by omega, rfl, by rw [hs1e, HS.out], rfl⟩, by simp [intOf]; omega⟩
        · have hs1 : (s.toList == []) = false := by simpa using hs
          have hse : s ≠ ⟨#[]⟩ := fun h => hs (by rw [h, ByteArray.toList_eq])
          have HS := Lib.hid (show s1 = s ++ hexD.extract d (d + 1) by rw [HSU.out, if_pos (.inl hse)])
          clear HSU HB hse hs
          go_wp2_with fail
          exact ⟨⟨k + 1, by omega, rfl, by rw [hs1e, HS.out]; rfl, rfl⟩, by simp [intOf]; omega⟩
      · rw [if_neg hev] at hdv
        have hm : ((k : Nat) : Int) % 2 = 1 := by omega
        have hdd : ((fk : Nat) : Int) % 16 = ((d : Nat) : Int) := by omega
        clear hdv hf hW
        go_upto_region 10 with (fail)
        rw [hdd]
        clear hdd
        by_cases hs : s.toList = []
        · have hs1 : (s.toList == []) = true := by simpa using hs
          have hse : s = ⟨#[]⟩ := by
            cases s with | mk a => cases a with | mk l =>
              simp only [ByteArray.toList_eq] at hs
              subst hs
              rfl
          have HE := Lib.hid hse
          clear hs hse
          by_cases h63 : k = 63
          · have hb : (((k : Nat) : Int) == 63) = true := by simp; omega
            have HS := Lib.hid (show s1 = s ++ hexD.extract d (d + 1) by rw [HSU.out, if_pos (.inr (.inr h63))])
            clear HSU HB HE
            by_cases hd : 0 < d
            · have hd1 : decide (0 < d) = true := by simpa using hd
              clear h63
              go_wp2_with fail
              exact ⟨⟨k + 1, by omega, rfl, by rw [hs1e, HS.out]; rfl, rfl⟩, by simp [intOf]; omega⟩
            · have hd1 : decide (0 < d) = false := by simpa using hd
              clear h63
              go_wp2_with fail
              exact ⟨⟨k + 1, by omega, rfl, by rw [hs1e, HS.out]; rfl, rfl⟩, by simp [intOf]; omega⟩
          · have hb : (((k : Nat) : Int) == 63) = false := by simp; omega
            by_cases hd : 0 < d
            · have HS := Lib.hid (show s1 = s ++ hexD.extract d (d + 1) by rw [HSU.out, if_pos (.inr (.inl hd))])
              have hd1 : decide (0 < d) = true := by simpa using hd
              clear HSU HB HE h63
              go_wp2_with fail
              exact ⟨⟨k + 1, by omega, rfl, by rw [hs1e, HS.out]; rfl, rfl⟩, by simp [intOf]; omega⟩
            · have HS := Lib.hid (show s1 = s by rw [HSU.out, if_neg (by rintro (h | h | h); exact h HE.out; exact hd h; exact h63 h)])
              have hd1 : decide (0 < d) = false := by simpa using hd
              clear HSU HB HE h63
              go_wp2_with fail
              exact ⟨⟨k + 1, by omega, rfl, by rw [hs1e, HS.out], rfl⟩, by simp [intOf]; omega⟩
        · have hs1 : (s.toList == []) = false := by simpa using hs
          have hse : s ≠ ⟨#[]⟩ := fun h => hs (by rw [h, ByteArray.toList_eq])
          have HS := Lib.hid (show s1 = s ++ hexD.extract d (d + 1) by rw [HSU.out, if_pos (.inl hse)])
          clear HSU HB hse hs
          go_wp2_with fail
          exact ⟨⟨k + 1, by omega, rfl, by rw [hs1e, HS.out]; rfl, rfl⟩, by simp [intOf]; omega⟩
    · obtain rfl : k = 64 := by omega
      have hsz := txS_size f 64
      go_wp2_with fail
      go_ret
      exact ⟨rfl, HBV.out⟩
end

section
def hexN (d : Nat) : Nat := if d < 10 then 48 + d else 87 + d
theorem hex_at {d : Nat} (h : d < 16) (W : World) : (Instr.index 9 (.string ⟨#[48, 49, 50, 51, 52, 53, 54, 55, 56, 57, 97, 98, 99, 100, 101, 102]⟩) (.int .u8 (d : Nat))).run Tryd.prog W = .ok (.int .u8 ((hexN d : Nat) : Int)) W := by
  rcases (by omega : d = 0 ∨ d = 1 ∨ d = 2 ∨ d = 3 ∨ d = 4 ∨ d = 5 ∨ d = 6 ∨ d = 7 ∨ d = 8 ∨ d = 9 ∨ d = 10 ∨ d = 11 ∨ d = 12 ∨ d = 13 ∨ d = 14 ∨ d = 15) with rfl | rfl | rfl | rfl | rfl | rfl | rfl | rfl | rfl | rfl | rfl | rfl | rfl | rfl | rfl | rfl <;> kernel_rfl
theorem hexG {d : Nat} (h : d < (⟨#[48, 49, 50, 51, 52, 53, 54, 55, 56, 57, 97, 98, 99, 100, 101, 102]⟩ : ByteArray).size) : (((⟨#[48, 49, 50, 51, 52, 53, 54, 55, 56, 57, 97, 98, 99, 100, 101, 102]⟩ : ByteArray)[d]'h).toNat : Nat) = hexN d := by
  have h' : d < 16 := h
  rcases (by omega : d = 0 ∨ d = 1 ∨ d = 2 ∨ d = 3 ∨ d = 4 ∨ d = 5 ∨ d = 6 ∨ d = 7 ∨ d = 8 ∨ d = 9 ∨ d = 10 ∨ d = 11 ∨ d = 12 ∨ d = 13 ∨ d = 14 ∨ d = 15) with rfl | rfl | rfl | rfl | rfl | rfl | rfl | rfl | rfl | rfl | rfl | rfl | rfl | rfl | rfl | rfl <;> rfl
theorem and15 {n : Nat} (h : n < 256) : bits .and .u8 (n : Int) 15 = ((n % 16 : Nat) : Int) := by
  have : ∀ m : Fin 256, bits .and .u8 (m.val : Int) 15 = ((m.val % 16 : Nat) : Int) := by decide +kernel
  exact this ⟨n, h⟩
def letN (f : Nat → Nat) (k : Nat) : UInt8 := UInt8.ofNat (hexN (txD f k))
def lets (f : Nat → Nat) (k : Nat) : List UInt8 := (List.range k).map (letN f)
theorem lets_succ (f : Nat → Nat) (k : Nat) : lets f (k + 1) = lets f k ++ [letN f k] := by unfold lets; rw [List.range_succ, List.map_append]; rfl
theorem txD_lt (f : Nat → Nat) (k : Nat) : txD f k < 16 := Nat.mod_lt _ (by decide)
theorem letN_nat (f : Nat → Nat) (k : Nat) : (letN f k).toNat = hexN (txD f k) := by
  have h := txD_lt f k
  unfold letN hexN
  rw [UInt8.toNat_ofNat']
  split <;> omega
theorem hex_ext {d : Nat} (h : d < 16) : hexD.extract d (d + 1) = ⟨#[UInt8.ofNat (hexN d)]⟩ := by
  rcases (by omega : d = 0 ∨ d = 1 ∨ d = 2 ∨ d = 3 ∨ d = 4 ∨ d = 5 ∨ d = 6 ∨ d = 7 ∨ d = 8 ∨ d = 9 ∨ d = 10 ∨ d = 11 ∨ d = 12 ∨ d = 13 ∨ d = 14 ∨ d = 15) with rfl | rfl | rfl | rfl | rfl | rfl | rfl | rfl | rfl | rfl | rfl | rfl | rfl | rfl | rfl | rfl <;> decide
theorem let48 (f : Nat → Nat) (k : Nat) : (letN f k == 48) = decide (txD f k = 0) := by
  have h : ∀ d : Fin 16, (UInt8.ofNat (hexN d.val) == 48) = decide (d.val = 0) := by decide
  exact h ⟨txD f k, txD_lt f k⟩
theorem ba_app (l : List UInt8) (c : UInt8) : (⟨l.toArray⟩ : ByteArray) ++ (⟨#[c]⟩ : ByteArray) = ⟨(l ++ [c]).toArray⟩ := by
  apply ByteArray.ext
  rw [ByteArray.data_append]
  simp
theorem ba_nil (l : List UInt8) : (⟨l.toArray⟩ : ByteArray) = ⟨#[]⟩ ↔ l = [] := by
  constructor
  · intro h
    have := congrArg ByteArray.data h
    simpa using this
  · rintro rfl; rfl
theorem trim_snoc (l : List UInt8) (c : UInt8) : Lib.trimLeftB (l ++ [c]) 48 = if Lib.trimLeftB l 48 = [] then (if c = 48 then [] else [c]) else Lib.trimLeftB l 48 ++ [c] := by
  unfold Lib.trimLeftB
  rw [List.dropWhile_append]
  by_cases h : List.dropWhile (fun x => x == 48) l = []
  · rw [if_pos h, h]
    by_cases hc : c = 48 <;> simp [hc]
  · rw [if_neg h]; simp [h]
theorem txS_trim (f : Nat → Nat) : ∀ k, k ≤ 63 → txS f k = ⟨(Lib.trimLeftB (lets f k) 48).toArray⟩
  | 0, _ => by rw [txS_zero]; rfl
  | k + 1, hk => by
    rw [txS_succ, txS_trim f k (by omega), lets_succ, trim_snoc, hex_ext (txD_lt f k)]
    have h48 := let48 f k
    by_cases h0 : Lib.trimLeftB (lets f k) 48 = []
    · rw [if_pos h0, h0]
      by_cases hd : txD f k = 0
      · rw [if_neg (by simp [hd]; omega), if_pos (by simpa [hd] using h48)]
      · rw [if_pos (by right; left; omega), if_neg (by simpa [hd] using h48)]
        rfl
    · rw [if_neg h0, if_pos (.inl (fun e => h0 ((ba_nil _).1 e))), ba_app]; rfl
theorem txS_end (f : Nat → Nat) : txS f 64 = if (⟨(Lib.trimLeftB (lets f 64) 48).toArray⟩ : ByteArray) = ⟨#[]⟩ then ⟨#[48]⟩ else ⟨(Lib.trimLeftB (lets f 64) 48).toArray⟩ := by
  rw [txS_succ, if_pos (.inr (.inr rfl)), txS_trim f 63 (by omega), lets_succ f 63, trim_snoc, hex_ext (txD_lt f 63)]
  have h48 := let48 f 63
  by_cases h0 : Lib.trimLeftB (lets f 63) 48 = []
  · rw [if_pos h0, h0]
    by_cases hd : txD f 63 = 0
    · have hc : letN f 63 = 48 := by simpa [hd] using h48
      rw [if_pos hc, hd]; rfl
    · have hc : ¬ letN f 63 = 48 := by simpa [hd] using h48
      rw [if_neg hc, if_neg (fun e => by have := (ba_nil _).1 e; cases this)]; rfl
  · rw [if_neg h0, if_neg (fun e => by have := (ba_nil _).1 e; simp at this), ba_app]; rfl
@[irreducible] def txT (f : Nat → Nat) : ByteArray := ⟨#[48, 120]⟩ ++ txS f 64
theorem txT_eq (f : Nat → Nat) : txT f = ⟨#[48, 120]⟩ ++ (if (⟨(Lib.trimLeftB (lets f 64) 48).toArray⟩ : ByteArray) = ⟨#[]⟩ then ⟨#[48]⟩ else ⟨(Lib.trimLeftB (lets f 64) 48).toArray⟩) := by
  unfold txT; rw [txS_end]
theorem Own.keptX {T : List Block} {b B : Nat} {w w' : World} (h : Own T w) (hk : KeptX b B w w') (hT : ∀ p ∈ T, p.1 < B ∧ p.1 ≠ b) : Own T w' := fun p hp => by
  have := h p hp
  have hh := hk.block p.1 (hT p hp).1 (hT p hp).2
  unfold Blk at this ⊢
  rw [hh]; exact this
def TeRel (f : Nat → Nat) (b B : Nat) (w2 : World) (i : Value) (wr : World) : Prop := ∃ k : Nat, k ≤ 32 ∧ i = .int .i64 k ∧ BldX b B (Lib.byteCells (lets f (2 * k))) wr ∧ KeptX b B w2 wr
set_option maxRecDepth 20000 in
set_option maxHeartbeats 4000000 in
theorem wordText_any (x : Nat → Nat) (w : World) (hx : ∀ q, x q < 2 ^ 64) :
    Calls Tryd.prog 12 #[.agg (limbs x)] w fun e w' => e = .returned (.string (txT (fun j => byteAt x (31 - j)))) ∧ Below w.heap.size w w' := by
  have HW := Lib.hid fun W => wordBytes_any x W hx
  obtain ⟨f, hfe⟩ : ∃ f : Nat → Nat, f = fun j => byteAt x (31 - j) := ⟨_, rfl⟩
  have hf : ∀ j, f j < 256 := fun j => by rw [hfe]; exact Nat.mod_lt _ (by decide)
  have hws : ∀ k, k < 32 → (bytesC (wbs x))[k]? = some (.int .u8 ((f k : Nat) : Int)) := fun k hk => by
    rw [hfe]; simp [bytesC, wbs, hk]
  rw [← hfe]
  clear hx hfe
  go_enter Tryd.func12, Tryd.ntmps12
  go_wp2_with fail
  refine (HW.out _).mono ?_
  rintro e w2 ⟨A, c, rfl, hs, hc, hb, T, hg, hOT, hTb⟩
  have hsz := hb.size
  simp only [World.size_alloc] at hsz
  have hbl : BldX (w.heap.size + 1) w2.heap.size (Lib.byteCells (lets f (2 * 0))) w2 := by
    refine ⟨by omega, .pointer none, .slice none 0 0, .inl rfl, ?_, ?_⟩
    · rw [hb.block _ (by simp)]
      first | exact heap_alloc_new _ _ | (rw [show w.heap.size + 1 = (w.alloc _).heap.size from (World.size_alloc _ _).symm]; exact heap_alloc_new _ _)
    · exact World.ownsRow_nil _ _ _ _
  obtain ⟨A', c', hAe, hc', hgs⟩ := hg
  cases hAe
  have hTl : ∀ p ∈ T, p.1 < w2.heap.size ∧ p.1 ≠ w.heap.size + 1 := fun p hp => ⟨(hOT p hp).lt, by have := hTb p hp; simp only [World.size_alloc] at this; omega⟩
  have hbw : Below w.heap.size w w2 := Below.trans (by go_grown) (Below.mono hb (by first | omega | (simp; done) | (simp; omega)))
  have HF := Lib.hid hf
  have HWS := Lib.hid hws
  have HBL := Lib.hid hbl
  have HOT := Lib.hid hOT
  have HTL := Lib.hid hTl
  have HGS := Lib.hid hgs
  have HBW := Lib.hid hbw
  clear hf hws hbl hOT hTl hgs hbw hb hTb hs
  generalize hbe : w.heap.size + 1 = b at *
  go_wp2_with fail
  go_loopw [10] (fun i wr => TeRel f b w2.heap.size w2 i wr) (fun i _ => 32 - (intOf i).toNat)
  case atStart => exact ⟨0, Nat.zero_le _, rfl, HBL.out, KeptX.refl _ _ _⟩
  case round =>
    obtain ⟨k, hk, rfl, hB, hK⟩ := hrel
    by_cases hlt : k < 32
    · have hfk := HF.out k
      have e1 : ((f k : Nat) : Int) / 16 = ((f k / 16 : Nat) : Int) := by omega
      have hx1 := fun W => hex_at (d := f k / 16) (by omega) W
      have hx2 := fun W => hex_at (d := f k % 16) (by omega) W
      have ha := and15 hfk
      have t1 : txD f (2 * k) = f k / 16 := by
        unfold txD; rw [if_pos (by omega), show 2 * k / 2 = k by omega]; omega
      have t2 : txD f (2 * k + 1) = f k % 16 := by
        unfold txD; rw [if_neg (by omega), show (2 * k + 1) / 2 = k by omega]
      obtain ⟨gb, off, rfl, hgl, hcell⟩ := (HGS.out wr (Own.keptX HOT.out hK HTL.out)).cell (HWS.out k hlt)
      have hc0 : wr.cell? ⟨gb, off + k, none⟩ = some (.int .u8 ((f k : Nat) : Int)) := hcell k _ (HWS.out k hlt)
      clear hcell
      have hKs := hK.size
      have HB := Lib.hid hB
      have HK := Lib.hid hK
      clear hB hK
      rw [← e1] at hx1
      have E1 := Lib.hid e1
      have T1 := Lib.hid t1
      have T2 := Lib.hid t2
      clear e1 t1 t2
      generalize hm1 : ((f k : Nat) : Int) / 16 = d1 at hx1
      have hs1 : ((f k : Nat) : Int) / 2 ^ 4 = d1 := by rw [← hm1]; rfl
      have HM := Lib.hid hm1
      clear hm1
      go_wp2_with fail
      refine (bwbX b w2.heap.size _ _ _ HB.out (by simp [Lib.byteCells, lets]; omega) (by first | omega | (simp; omega))).mono ?_
      rintro e w3 ⟨rfl, hB3, hK3⟩
      have hKs3 := hK3.size
      have HB3 := Lib.hid hB3
      have HK3 := Lib.hid (HK.out.trans hK3)
      clear hB3 hK3
      go_wp2_with fail
      refine (bwbX b w2.heap.size _ _ _ HB3.out (by simp [Lib.byteCells, lets]; omega) (by first | omega | (simp; omega))).mono ?_
      rintro e w4 ⟨rfl, hB4, hK4⟩
      have HB4 := Lib.hid hB4
      have HK4 := Lib.hid (HK3.out.trans hK4)
      clear hB4 hK4
      go_wp2_with fail
      refine ⟨⟨k + 1, by omega, by go_num, ?_, HK4.out⟩, by first | (simp [intOf]; done) | (simp [intOf]; omega)⟩
      have e : Lib.byteCells (lets f (2 * (k + 1))) = Lib.byteCells (lets f (2 * k)) ++ [.int .u8 ((hexN (f k / 16) : Nat) : Int)] ++ [.int .u8 ((hexN (f k % 16) : Nat) : Int)] := by
        rw [show 2 * (k + 1) = 2 * k + 1 + 1 by omega, lets_succ, lets_succ, Lib.byteCells_append, Lib.byteCells_append]
        simp [Lib.byteCells, letN_nat, T1.out, T2.out]
      rw [e]
      have h4 := HB4.out
      simp only [hexG] at h4
      exact h4
    · obtain rfl : k = 32 := by omega
      have HB := Lib.hid hB
      have HK := Lib.hid hK
      have hKs := hK.size
      clear hB hK
      go_wp2_with fail
      refine (Tryd.Builder_String_any b b (lets f 64) _ HB.out.isb (by omega)).mono ?_
      rintro e w3 ⟨rfl, hb3⟩
      have HB3 := Lib.hid hb3
      clear hb3
      go_wp2_with fail
      refine (Tryd.strings_TrimLeft_one ⟨(lets f 64).toArray⟩ 48 (by decide) w3).mono ?_
      rintro e w4 ⟨rfl, hw4⟩
      subst hw4
      have HBA := Lib.hid (HBW.out.trans (((HK.out.below (n := w.heap.size) (by omega) (by omega)).trans (HB3.out.mono (by omega))).mono (by have := HBW.out.size; omega)))
      have HP := Lib.hid (txT_eq f)
      dsimp only at HP ⊢
      have hSz : (⟨(Lib.trimLeftB (lets f 64) 48).toArray⟩ : ByteArray).size ≤ 64 := by
        show (Lib.trimLeftB (lets f 64) 48).toArray.size ≤ 64
        rw [List.size_toArray]
        have h1 := (List.dropWhile_sublist (fun x : UInt8 => x == 48) (l := lets f 64)).length_le
        have h2 : (lets f 64).length = 64 := by simp [lets]
        unfold Lib.trimLeftB
        omega
      generalize hS : (⟨(Lib.trimLeftB (lets f 64) 48).toArray⟩ : ByteArray) = S at HP hSz ⊢
      clear hS HB3 HK HB
      clear HW HF HWS HBL HOT HTL HGS HBW
      generalize (⟨(lets f 64).toArray⟩ : ByteArray) = LL
      by_cases hz : S = ⟨#[]⟩
      · subst hz
        go_wp2_with fail
        go_ret
        refine ⟨?_, HBA.out⟩
        have h2 := HP.out
        rw [h2]
        simp
      · have HZ := Lib.hid hz
        clear hz
        have hem : S.toList.isEmpty = false := by
          rw [Bool.eq_false_iff]
          intro h
          rw [Lib.toList_data] at h
          apply HZ.out
          apply ByteArray.ext
          apply Array.toList_inj.1
          simpa using h
        go_wp2_with fail
        go_ret
        refine ⟨?_, HBA.out⟩
        rw [HP.out, if_neg HZ.out]
        rfl
end

section
set_option maxHeartbeats 1000000 in
theorem add1_any (b : Nat) (s x : BitVec 256) (w : World) (hB : Blk w b #[.int .u64 (L s 0), .int .u64 (L s 1), .int .u64 (L s 2), .int .u64 (L s 3)] 26) :
    Calls Tryd.prog 25 #[W x, .pointer (some ⟨b, 0, none⟩)] w fun e w' => (∃ v, e = .returned v) ∧ Blk w' b #[.int .u64 (L (s + x) 0), .int .u64 (L (s + x) 1), .int .u64 (L (s + x) 2), .int .u64 (L (s + x) 3)] 26 ∧ Below b w w' := by
  have h1 : ∀ o : Obj, Blk (w.alloc o) b #[.int .u64 (L s 0), .int .u64 (L s 1), .int .u64 (L s 2), .int .u64 (L s 3)] 26 := fun o => hB.grow (World.below_alloc w o)
  have c1 := fun o => (h1 o).cell
  have l1 := hB.lt
  have l2 := Nat.lt_succ_of_lt l1
  have hf := fold_add s x
  have hfl : ∀ V : World, (Instr.field 54 (.agg #[.int .u64 (L s 0), .int .u64 (L s 1), .int .u64 (L s 2), .int .u64 (L s 3)]) 0).run Tryd.prog V = .ok (.agg #[.int .u64 (L s 0), .int .u64 (L s 1), .int .u64 (L s 2), .int .u64 (L s 3)]) V := fun _ => by kernel_rfl
  go_enter Tryd.func25, Tryd.ntmps25
  go_wp2_with fail
  refine (hf _).mono ?_
  rintro e w2 ⟨rfl, hb⟩
  have hB2 : Blk w2 b #[.int .u64 (L s 0), .int .u64 (L s 1), .int .u64 (L s 2), .int .u64 (L s 3)] 26 := (h1 _).grow hb
  have c2 := hB2.cell
  have f2 := hB2.free
  have l3 := hB2.lt
  have hb2 : Below b w w2 := ((World.below_alloc w _).mono (Nat.le_of_lt l1)).trans (hb.mono (by simp; omega))
  have hend := ((((hB2.set 0 (.int .u64 (L (s + x) 0))).set 1 (.int .u64 (L (s + x) 1))).set 2 (.int .u64 (L (s + x) 2))).set 3 (.int .u64 (L (s + x) 3)))
  clear h1 c1 hf hb hB
  go_wp2_with fail
  go_end0
  refine ⟨⟨_, rfl⟩, ?_, ?_⟩
  · exact hend
  · refine hb2.trans ?_
    exact ((((Below.refl b w2).setCell (p := ⟨b, 0, none⟩) (Nat.le_refl _) _).setCell (p := ⟨b, 1, none⟩) (Nat.le_refl _) _).setCell (p := ⟨b, 2, none⟩) (Nat.le_refl _) _).setCell (p := ⟨b, 3, none⟩) (Nat.le_refl _) _
abbrev wl (x : BitVec 256) : List Value := [.int .u64 (L x 0), .int .u64 (L x 1), .int .u64 (L x 2), .int .u64 (L x 3)]
abbrev wc (x : BitVec 256) : Array Value := #[.int .u64 (L x 0), .int .u64 (L x 1), .int .u64 (L x 2), .int .u64 (L x 3)]
def sumW (xs : List (BitVec 256)) (k : Nat) : BitVec 256 := (xs.take k).foldl (· + ·) 0
theorem sumW_zero (xs : List (BitVec 256)) : sumW xs 0 = 0 := rfl
theorem sumW_succ {xs : List (BitVec 256)} {k : Nat} {x : BitVec 256} (h : xs[k]? = some x) : sumW xs (k + 1) = sumW xs k + x := by
  unfold sumW
  rw [List.take_add_one, h, List.foldl_append]
  rfl
theorem sumW_all (xs : List (BitVec 256)) : sumW xs xs.length = xs.foldl (· + ·) 0 := by unfold sumW; rw [List.take_length]
theorem L_zero (i : Nat) : L 0#256 i = 0 := by rw [L_eq]; simp
theorem wc_zero : wc 0 = #[.int .u64 0, .int .u64 0, .int .u64 0, .int .u64 0] := by rw [show (0 : BitVec 256) = 0#256 from rfl]; unfold wc; rw [L_zero, L_zero, L_zero, L_zero]
def AddLRel (xs : List (BitVec 256)) (w : World) (i : Value) (wr : World) : Prop := ∃ k : Nat, k ≤ xs.length ∧ i = .int .i64 k ∧ Blk wr w.heap.size (wc (sumW xs k)) 26 ∧ Below w.heap.size w wr
set_option maxRecDepth 20000 in
set_option maxHeartbeats 2000000 in
theorem addL_any (A : Option Addr) (xs : List (BitVec 256)) (cap : Nat) (w : World) (hS : SlAt w A (xs.flatMap wl)) (hn : xs.length ≤ 1000) :
    Calls Tryd.prog 9 #[.slice A xs.length cap] w fun e w' => e = .returned (W (xs.foldl (· + ·) 0)) ∧ Below w.heap.size w w' := by
  have HE := Lib.hid (sumW_all xs)
  have HS := Lib.hid (fun (V : World) (hb : Below w.heap.size w V) => hS.below rfl hb)
  have HSU := Lib.hid (fun k x (h : xs[k]? = some x) => sumW_succ h)
  have HST := Lib.hid (show Blk (w.alloc (.cells #[.int .u64 0, .int .u64 0, .int .u64 0, .int .u64 0] 26)) w.heap.size (wc (sumW xs 0)) 26 by rw [sumW_zero, wc_zero]; exact heap_alloc_new _ _)
  have hb0 := World.below_alloc w (.cells #[.int .u64 0, .int .u64 0, .int .u64 0, .int .u64 0] 26)
  have HB0 := Lib.hid hb0
  clear hS hb0
  obtain ⟨S, hS⟩ : ∃ S, S = xs.foldl (· + ·) 0 := ⟨_, rfl⟩
  rw [← hS] at HE ⊢
  clear hS
  generalize hln : xs.length = n at *
  go_enter Tryd.func9, Tryd.ntmps9
  go_wp2_with fail
  go_loopw [9] (fun i wr => AddLRel xs w i wr) (fun i _ => n - (intOf i).toNat)
  case atStart => exact ⟨0, Nat.zero_le _, rfl, HST.out, HB0.out⟩
  case round =>
    clear HST HB0
    obtain ⟨k, hk, rfl, hB, hb⟩ := hrel
    rw [hln] at hk
    have hlB := hB.lt
    by_cases hlt : k < n
    · obtain ⟨x, hx⟩ : ∃ x, xs[k]? = some x := ⟨xs[k], by simp [hln, hlt]⟩
      have at_ : ∀ j, j < 4 → (xs.flatMap wl)[k * 4 + j]? = (wl x)[j]? := fun j hj => flat_at (f := wl) (n := 4) (fun _ => rfl) xs k x hx j hj
      obtain ⟨b', off, rfl, hbl, hcell⟩ := (HS.out wr hb).cell ((at_ 0 (by omega)).trans rfl)
      have hc0 : wr.cell? ⟨b', off + k * 4, none⟩ = some (.int .u64 (L x 0)) := by have := hcell (k * 4 + 0) _ ((at_ 0 (by omega)).trans rfl); simpa [Nat.add_assoc] using this
      have hc1 : wr.cell? ⟨b', off + k * 4 + 1, none⟩ = some (.int .u64 (L x 1)) := by have := hcell (k * 4 + 1) _ ((at_ 1 (by omega)).trans rfl); simpa [Nat.add_assoc] using this
      have hc2 : wr.cell? ⟨b', off + k * 4 + 2, none⟩ = some (.int .u64 (L x 2)) := by have := hcell (k * 4 + 2) _ ((at_ 2 (by omega)).trans rfl); simpa [Nat.add_assoc] using this
      have hc3 : wr.cell? ⟨b', off + k * 4 + 3, none⟩ = some (.int .u64 (L x 3)) := by have := hcell (k * 4 + 3) _ ((at_ 3 (by omega)).trans rfl); simpa [Nat.add_assoc] using this
      have hsu := HSU.out k x hx
      generalize hs1 : sumW xs (k + 1) = s1 at *
      generalize sumW xs k = s at *
      subst hsu
      have HAD := Lib.hid (fun o => add1_any w.heap.size s x (wr.alloc o) (hB.grow (World.below_alloc wr o)))
      have hbs := hb.size
      have HBB := Lib.hid hb
      clear hcell at_ hb hB
      go_wp2_with fail
      refine (HAD.out _).mono ?_
      rintro e w2 ⟨⟨v, rfl⟩, hB2, hb2⟩
      have HB2 := Lib.hid hB2
      have HBW := Lib.hid ((HBB.out.trans ((World.below_alloc wr _).mono hbs)).trans hb2)
      clear hB2 hb2 hc0 hc1 hc2 hc3
      go_wp2_with fail
      exact ⟨⟨k + 1, by rw [hln]; omega, by go_num, by rw [hs1]; exact HB2.out, HBW.out⟩, by simp [intOf]; omega⟩
    · obtain rfl : k = n := by omega
      rw [HE.out] at hB
      have cB := hB.cell
      have fB := hB.free
      have hE := ((((hB.set 0 (.int .u64 (L S 0))).set 1 (.int .u64 (L S 1))).set 2 (.int .u64 (L S 2))).set 3 (.int .u64 (L S 3)))
      have cE := hE.cell
      have HBB := Lib.hid hb
      clear hb hB hE
      go_wp2_with fail
      refine bodyPost_ret (v := W S) (by simp [results, Tryd.results9, go_sem, *]) rfl ?_
      refine ⟨rfl, HBB.out.trans ?_⟩
      exact ((((Below.refl w.heap.size wr).setCell (p := ⟨w.heap.size, 0, none⟩) (Nat.le_refl _) _).setCell (p := ⟨w.heap.size, 1, none⟩) (Nat.le_refl _) _).setCell (p := ⟨w.heap.size, 2, none⟩) (Nat.le_refl _) _).setCell (p := ⟨w.heap.size, 3, none⟩) (Nat.le_refl _) _
theorem add_any (x y : BitVec 256) (sb : Nat) (t : TypeId) (w : World) (hs : Blk w sb #[.int .u64 (L x 0), .int .u64 (L x 1), .int .u64 (L x 2), .int .u64 (L x 3), .int .u64 (L y 0), .int .u64 (L y 1), .int .u64 (L y 2), .int .u64 (L y 3)] t) :
    Calls Tryd.prog 9 #[.slice (some ⟨sb, 0, none⟩) 2 2] w fun e w' => e = .returned (W (x + y)) ∧ Below w.heap.size w w' := by
  have h := addL_any (some ⟨sb, 0, none⟩) [x, y] 2 w (SlAt.of_blk hs) (by simp)
  rw [show [x, y].foldl (· + ·) 0 = x + y by simp] at h
  exact h
end

section
/-- Twice a word, and a bit. -/
def dbl (x : BitVec 256) (b : Bool) : BitVec 256 := (x + x) ||| (if b then 1#256 else 0#256)
theorem dbl_nat (x : BitVec 256) (b : Bool) : (dbl x b).toNat = (2 * x.toNat + b.toNat) % 2 ^ 256 := by
  unfold dbl
  have hx := x.isLt
  have e : (x + x).toNat = 2 * (x.toNat % 2 ^ 255) := by
    rw [BitVec.toNat_add]
    have h : (2 : Nat) ^ 256 = 2 * 2 ^ 255 := by decide
    rw [h]
    generalize (2 : Nat) ^ 255 = P
    rw [show x.toNat + x.toNat = 2 * x.toNat by omega, Nat.mul_mod_mul_left]
  have h2 : (2 * x.toNat + b.toNat) % 2 ^ 256 = 2 * (x.toNat % 2 ^ 255) + b.toNat := by
    have h : (2 : Nat) ^ 256 = 2 * 2 ^ 255 := by decide
    rw [h]
    have hb : b.toNat < 2 := Bool.toNat_lt b
    have hP : x.toNat % 2 ^ 255 < 2 ^ 255 := Nat.mod_lt _ (by decide)
    have := Nat.mod_add_div x.toNat (2 ^ 255)
    generalize (2 : Nat) ^ 255 = P at *
    generalize x.toNat % P = r at *
    have e2 : 2 * x.toNat + b.toNat = (2 * r + b.toNat) + 2 * P * (x.toNat / P) := by
      rw [Nat.mul_assoc]; generalize P * (x.toNat / P) = T at *; omega
    rw [e2, Nat.add_mul_mod_self_left, Nat.mod_eq_of_lt (by omega)]
  rw [h2, BitVec.toNat_or, e]
  cases b
  · simp
  · have : (2 * (x.toNat % 2 ^ 255)) ||| 1 = 2 * (x.toNat % 2 ^ 255) + 1 := by
      have := Nat.two_pow_add_eq_or_of_lt (i := 1) (b := 1) (by decide) (x.toNat % 2 ^ 255)
      rw [Nat.pow_one] at this; exact this.symm
    simpa using this
def goesB (m r : BitVec 256) (b : Bool) : Bool := r.msb || decide (m.toNat ≤ (dbl r b).toNat)
def stepW (m r : BitVec 256) (b : Bool) : BitVec 256 := if goesB m r b then dbl r b - m else dbl r b
def stepQ (m r q : BitVec 256) (b : Bool) : BitVec 256 := if goesB m r b then dbl q false ||| 1#256 else dbl q false
theorem goesB_iff (m r : BitVec 256) (b : Bool) (h : r.toNat < m.toNat) : goesB m r b = decide (m.toNat ≤ 2 * r.toNat + b.toNat) := by
  unfold goesB
  rw [dbl_nat]
  have hb : b.toNat < 2 := Bool.toNat_lt b
  have hm := m.isLt
  have hr := r.isLt
  have hs : r.msb = decide (2 ^ 255 ≤ r.toNat) := by rw [BitVec.msb_eq_decide]
  rw [hs]
  simp only [Nat.reducePow] at *
  by_cases h1 : 57896044618658097711785492504343953926634992332820282019728792003956564819968 ≤ r.toNat
  · rw [decide_eq_true h1, decide_eq_true (by omega : m.toNat ≤ 2 * r.toNat + b.toNat)]; rfl
  · rw [decide_eq_false h1, Bool.false_or]
    congr 1
    rw [Nat.mod_eq_of_lt (by omega)]
theorem stepW_nat (m r : BitVec 256) (b : Bool) (h : r.toNat < m.toNat) : (stepW m r b).toNat = (2 * r.toNat + b.toNat) % m.toNat := by
  have hb : b.toNat < 2 := Bool.toNat_lt b
  have hm := m.isLt
  unfold stepW
  rw [goesB_iff m r b h]
  by_cases h1 : m.toNat ≤ 2 * r.toNat + b.toNat
  · rw [decide_eq_true h1, if_pos rfl, BitVec.toNat_sub, dbl_nat]
    have : (2 * r.toNat + b.toNat) % m.toNat = 2 * r.toNat + b.toNat - m.toNat := by
      rw [Nat.mod_eq_sub_mod h1, Nat.mod_eq_of_lt (by omega)]
    rw [this]
    simp only [Nat.reducePow] at *
    omega
  · rw [decide_eq_false h1, if_neg (by simp), dbl_nat, Nat.mod_eq_of_lt (by omega), Nat.mod_eq_of_lt (by omega)]
theorem or_one_dbl (q : BitVec 256) : dbl q false ||| 1#256 = dbl q true := by unfold dbl; simp
theorem stepQ_nat (m r q : BitVec 256) (b : Bool) (h : r.toNat < m.toNat) : (stepQ m r q b).toNat = (2 * q.toNat + (2 * r.toNat + b.toNat) / m.toNat) % 2 ^ 256 := by
  have hb : b.toNat < 2 := Bool.toNat_lt b
  unfold stepQ
  rw [goesB_iff m r b h, or_one_dbl]
  by_cases h1 : m.toNat ≤ 2 * r.toNat + b.toNat
  · have : (2 * r.toNat + b.toNat) / m.toNat = 1 := Nat.div_eq_of_lt_le (by omega) (by omega)
    rw [decide_eq_true h1, if_pos rfl, dbl_nat, this]; rfl
  · rw [decide_eq_false h1, if_neg (by simp), dbl_nat, Nat.div_eq_of_lt (by omega)]; rfl
/-- What is left of the first bits of a number, and how often. -/
theorem half_eq (n i : Nat) : n / 2 ^ i = 2 * (n / 2 ^ (i + 1)) + (n.testBit i).toNat := by
  have h : n / 2 ^ (i + 1) = n / 2 ^ i / 2 := by rw [Nat.pow_succ, Nat.div_div_eq_div_mul]
  rw [h, Nat.testBit_eq_decide_div_mod_eq]
  by_cases e : n / 2 ^ i % 2 = 1
  · simp only [e, decide_true, Bool.toNat_true]; omega
  · simp only [e, decide_false, Bool.toNat_false]; omega
def remN (n : Nat) (m : BitVec 256) (i : Nat) : BitVec 256 := BitVec.ofNat 256 (n / 2 ^ i % m.toNat)
def quoN (n : Nat) (m : BitVec 256) (i : Nat) : BitVec 256 := BitVec.ofNat 256 (n / 2 ^ i / m.toNat)
theorem remN_nat {n : Nat} {m : BitVec 256} {i : Nat} (hm : 0 < m.toNat) : (remN n m i).toNat = n / 2 ^ i % m.toNat := by
  unfold remN; rw [BitVec.toNat_ofNat]; exact Nat.mod_eq_of_lt (Nat.lt_trans (Nat.mod_lt _ hm) m.isLt)
theorem remN_lt {n : Nat} {m : BitVec 256} {i : Nat} (hm : 0 < m.toNat) : (remN n m i).toNat < m.toNat := by rw [remN_nat hm]; exact Nat.mod_lt _ hm
theorem remN_step (n : Nat) (m : BitVec 256) (i : Nat) (hm : 0 < m.toNat) : stepW m (remN n m (i + 1)) (n.testBit i) = remN n m i := by
  apply BitVec.eq_of_toNat_eq
  rw [stepW_nat _ _ _ (remN_lt hm), remN_nat hm, remN_nat hm, half_eq n i, Nat.add_mod, Nat.add_mod (2 * (n / 2 ^ (i + 1))), Nat.mul_mod 2 (n / 2 ^ (i + 1) % m.toNat), Nat.mod_mod, ← Nat.mul_mod]
theorem quoN_step (n : Nat) (m : BitVec 256) (i : Nat) (hm : 0 < m.toNat) : stepQ m (remN n m (i + 1)) (quoN n m (i + 1)) (n.testBit i) = quoN n m i := by
  apply BitVec.eq_of_toNat_eq
  rw [stepQ_nat _ _ _ _ (remN_lt hm), remN_nat hm]
  unfold quoN
  rw [BitVec.toNat_ofNat, BitVec.toNat_ofNat, half_eq n i]
  have hd := Nat.mod_add_div (n / 2 ^ (i + 1)) m.toNat
  generalize n / 2 ^ (i + 1) = T at *
  generalize (n.testBit i).toNat = b at *
  have e : (2 * T + b) / m.toNat = 2 * (T / m.toNat) + (2 * (T % m.toNat) + b) / m.toNat := by
    have : 2 * T + b = (2 * (T % m.toNat) + b) + m.toNat * (2 * (T / m.toNat)) := by
      rw [Nat.mul_left_comm]; generalize m.toNat * (T / m.toNat) = Y at *; omega
    rw [this, Nat.add_mul_div_left _ _ hm]; omega
  rw [e]
  generalize (2 * (T % m.toNat) + b) / m.toNat = Z
  generalize T / m.toNat = Q
  generalize (2 : Nat) ^ 256 = P
  rw [Nat.add_mod, Nat.mul_mod, Nat.mod_mod, ← Nat.mul_mod, ← Nat.add_mod]
theorem remN_top {n : Nat} (m : BitVec 256) {k : Nat} (h : n < 2 ^ k) : remN n m k = 0#256 := by
  unfold remN; rw [Nat.div_eq_of_lt h, Nat.zero_mod]
theorem quoN_top {n : Nat} (m : BitVec 256) {k : Nat} (h : n < 2 ^ k) : quoN n m k = 0#256 := by
  unfold quoN; rw [Nat.div_eq_of_lt h, Nat.zero_div]
theorem remN_end (x m : BitVec 256) : remN x.toNat m 0 = x % m := by
  apply BitVec.eq_of_toNat_eq
  unfold remN; rw [Nat.pow_zero, Nat.div_one, BitVec.toNat_umod, BitVec.toNat_ofNat]
  exact Nat.mod_eq_of_lt (Nat.lt_of_le_of_lt (Nat.mod_le _ _) x.isLt)
theorem quoN_end (x m : BitVec 256) : quoN x.toNat m 0 = x / m := by
  apply BitVec.eq_of_toNat_eq
  unfold quoN; rw [Nat.pow_zero, Nat.div_one, BitVec.toNat_udiv, BitVec.toNat_ofNat]
  exact Nat.mod_eq_of_lt (Nat.lt_of_le_of_lt (Nat.div_le_self _ _) x.isLt)
/-- The sum of two that are below a modulus, below it. -/
def addM (a b m : BitVec 256) : BitVec 256 := if decide ((a + b).toNat < a.toNat) || decide (m.toNat ≤ (a + b).toNat) then a + b - m else a + b
theorem addM_nat {a b m : BitVec 256} (ha : a.toNat < m.toNat) (hb : b.toNat < m.toNat) : (addM a b m).toNat = (a.toNat + b.toNat) % m.toNat := by
  have hm := m.isLt
  have h1 : (a.toNat + b.toNat) % m.toNat = if m.toNat ≤ a.toNat + b.toNat then a.toNat + b.toNat - m.toNat else a.toNat + b.toNat := by
    split
    · rename_i h; rw [Nat.mod_eq_sub_mod h, Nat.mod_eq_of_lt (by omega)]
    · exact Nat.mod_eq_of_lt (by omega)
  rw [h1]
  unfold addM
  have hs : (a + b).toNat = (a.toNat + b.toNat) % 2 ^ 256 := BitVec.toNat_add a b
  by_cases hc : m.toNat ≤ a.toNat + b.toNat
  · have : (decide ((a + b).toNat < a.toNat) || decide (m.toNat ≤ (a + b).toNat)) = true := by
      rw [hs]; simp only [Nat.reducePow, Bool.or_eq_true, decide_eq_true_eq] at *; omega
    rw [this, if_pos rfl, if_pos hc, BitVec.toNat_sub, hs]
    simp only [Nat.reducePow] at *; omega
  · have : (decide ((a + b).toNat < a.toNat) || decide (m.toNat ≤ (a + b).toNat)) = false := by
      rw [hs]; simp only [Nat.reducePow, Bool.or_eq_false_iff, decide_eq_false_iff_not] at *; omega
    rw [this, if_neg (by simp), if_neg hc, hs]
    simp only [Nat.reducePow] at *; omega
/-- What is left, nought by nought. -/
def modW (a b : BitVec 256) : BitVec 256 := if b = 0#256 then 0#256 else a % b
def divW (a b : BitVec 256) : BitVec 256 := if b = 0#256 then 0#256 else a / b
theorem pos_of_ne {m : BitVec 256} (h : ¬ m = 0#256) : 0 < m.toNat := by
  rcases Nat.eq_zero_or_pos m.toNat with h0 | h0
  · exact absurd (BitVec.eq_of_toNat_eq h0) h
  · exact h0
def mulMn (a b m : BitVec 256) (i : Nat) : BitVec 256 := BitVec.ofNat 256 (a.toNat * (b.toNat / 2 ^ i) % m.toNat)
theorem mulMn_nat {a b m : BitVec 256} {i : Nat} (hm : 0 < m.toNat) : (mulMn a b m i).toNat = a.toNat * (b.toNat / 2 ^ i) % m.toNat := by
  unfold mulMn; rw [BitVec.toNat_ofNat]; exact Nat.mod_eq_of_lt (Nat.lt_trans (Nat.mod_lt _ hm) m.isLt)
theorem mulMn_lt {a b m : BitVec 256} {i : Nat} (hm : 0 < m.toNat) : (mulMn a b m i).toNat < m.toNat := by rw [mulMn_nat hm]; exact Nat.mod_lt _ hm
theorem mulMn_step0 (a b m : BitVec 256) (i : Nat) (hm : 0 < m.toNat) (h : b.getLsbD i = false) : addM (mulMn a b m (i + 1)) (mulMn a b m (i + 1)) m = mulMn a b m i := by
  apply BitVec.eq_of_toNat_eq
  rw [addM_nat (mulMn_lt hm) (mulMn_lt hm), mulMn_nat hm, mulMn_nat hm, half_eq b.toNat i]
  have : (b.toNat.testBit i) = false := h
  rw [this]
  generalize b.toNat / 2 ^ (i + 1) = T
  rw [show 2 * T + false.toNat = T + T by simp; omega, Nat.mul_add, ← Nat.add_mod]
theorem mulMn_step1 (a b m : BitVec 256) (i : Nat) (hm : 0 < m.toNat) (h : b.getLsbD i = true) : addM (addM (mulMn a b m (i + 1)) (mulMn a b m (i + 1)) m) (a % m) m = mulMn a b m i := by
  apply BitVec.eq_of_toNat_eq
  have h1 : (a % m).toNat = a.toNat % m.toNat := BitVec.toNat_umod
  have h0 := addM_nat (mulMn_lt (a := a) (b := b) (i := i + 1) hm) (mulMn_lt (a := a) (b := b) (i := i + 1) hm)
  rw [addM_nat (by rw [h0]; exact Nat.mod_lt _ hm) (by rw [h1]; exact Nat.mod_lt _ hm), h0, h1, mulMn_nat hm, mulMn_nat hm, half_eq b.toNat i]
  have : (b.toNat.testBit i) = true := h
  rw [this]
  generalize b.toNat / 2 ^ (i + 1) = T
  rw [show 2 * T + true.toNat = T + T + 1 by simp; omega, Nat.mul_add, Nat.mul_add, Nat.mul_one, Nat.add_mod (a.toNat * T + a.toNat * T), Nat.add_mod (a.toNat * T)]
theorem mulMn_top (a b m : BitVec 256) : mulMn a b m 256 = 0#256 := by
  unfold mulMn; rw [Nat.div_eq_of_lt b.isLt, Nat.mul_zero, Nat.zero_mod]
theorem addM_mod {a b m : BitVec 256} (hm : 0 < m.toNat) : addM (a % m) (b % m) m = BitVec.ofNat 256 ((a.toNat + b.toNat) % m.toNat) := by
  apply BitVec.eq_of_toNat_eq
  have h1 : (a % m).toNat = a.toNat % m.toNat := BitVec.toNat_umod
  have h2 : (b % m).toNat = b.toNat % m.toNat := BitVec.toNat_umod
  rw [addM_nat (by rw [h1]; exact Nat.mod_lt _ hm) (by rw [h2]; exact Nat.mod_lt _ hm), h1, h2, ← Nat.add_mod, BitVec.toNat_ofNat, Nat.mod_eq_of_lt (Nat.lt_trans (Nat.mod_lt _ hm) m.isLt)]
/-- The order of signed words. -/
theorem less_signed (a b : BitVec 256) : decide ((a ^^^ BitVec.twoPow 256 255).toNat < (b ^^^ BitVec.twoPow 256 255).toNat) = (if a.msb = b.msb then decide (a.toNat < b.toNat) else a.msb) := by
  have key : ∀ x : BitVec 256, (x ^^^ BitVec.twoPow 256 255).toNat = if x.msb then x.toNat - 2 ^ 255 else x.toNat + 2 ^ 255 := fun x => by
    have e : x ^^^ BitVec.twoPow 256 255 = x + BitVec.twoPow 256 255 := by
      apply BitVec.eq_of_getLsbD_eq
      intro i hi
      rw [BitVec.getLsbD_xor, BitVec.getLsbD_add hi, BitVec.getLsbD_twoPow]
      have hc : BitVec.carry i x (BitVec.twoPow 256 255) false = false := by
        rw [BitVec.carry]
        have : (BitVec.twoPow 256 255).toNat % 2 ^ i = 0 := by
          rw [BitVec.toNat_twoPow, Nat.mod_eq_of_lt (by decide : (2:Nat) ^ 255 < 2 ^ 256)]
          have : (2 : Nat) ^ 255 = 2 ^ i * 2 ^ (255 - i) := by rw [← Nat.pow_add]; congr 1; omega
          rw [this, Nat.mul_mod_right]
        rw [this]
        have := Nat.mod_lt x.toNat (Nat.two_pow_pos i)
        simp; omega
      rw [hc]; simp
    rw [e, BitVec.toNat_add, BitVec.toNat_twoPow, BitVec.msb_eq_decide]
    have := x.isLt
    simp only [Nat.reducePow, Nat.reduceMod, decide_eq_true_eq, Nat.reduceSub] at *
    split <;> omega
  rw [key, key]
  have ha := a.isLt
  have hb := b.isLt
  have ma : a.msb = decide (2 ^ 255 ≤ a.toNat) := BitVec.msb_eq_decide a
  have mb : b.msb = decide (2 ^ 255 ≤ b.toNat) := BitVec.msb_eq_decide b
  cases h1 : a.msb <;> cases h2 : b.msb <;> rw [h1] at ma <;> rw [h2] at mb <;> simp at ma mb ⊢ <;> simp only [Nat.reducePow] at * <;> omega
/-- Euclid's pairs. -/
def pairsL (a b : BitVec 256) : List (BitVec 256 × BitVec 256) :=
  if a = 0#256 then [] else (a, b) :: (if h : b = 0#256 then [] else pairsL b (a % b))
termination_by b.toNat
decreasing_by
  rw [BitVec.toNat_umod]
  exact Nat.mod_lt _ (by rcases Nat.eq_zero_or_pos b.toNat with h0 | h0; exact absurd (BitVec.eq_of_toNat_eq h0) h; exact h0)
theorem pairsL_nil (b : BitVec 256) : pairsL 0#256 b = [] := by rw [pairsL]; simp
theorem pairsL_cons {a : BitVec 256} (b : BitVec 256) (h : ¬ a = 0#256) : pairsL a b = (a, b) :: pairsL b (modW a b) := by
  rw [pairsL, if_neg h]
  congr 1
  unfold modW
  split
  · rename_i hb; rw [hb, pairsL_nil]
  · rfl
theorem last_goes : ∀ (n : Nat) (a b : BitVec 256), b.toNat ≤ n → ¬ a = 0#256 → ∃ x y, (pairsL a b).getLast? = some (x, y) ∧ ¬ x = 0#256 ∧ a.toNat % x.toNat = 0 ∧ b.toNat % x.toNat = 0 := by
  intro n
  induction n with
  | zero =>
    intro a b hb ha
    have : b = 0#256 := BitVec.eq_of_toNat_eq (by simpa using hb)
    subst this
    refine ⟨a, 0#256, ?_, ha, Nat.mod_self _, Nat.zero_mod _⟩
    rw [pairsL_cons _ ha, pairsL_nil]; rfl
  | succ n ih =>
    intro a b hb ha
    by_cases h0 : b = 0#256
    · subst h0
      refine ⟨a, 0#256, ?_, ha, Nat.mod_self _, Nat.zero_mod _⟩
      rw [pairsL_cons _ ha, pairsL_nil]; rfl
    · have hp : 0 < b.toNat := by rcases Nat.eq_zero_or_pos b.toNat with h | h; exact absurd (BitVec.eq_of_toNat_eq h) h0; exact h
      have hlt : (a % b).toNat < b.toNat := by rw [BitVec.toNat_umod]; exact Nat.mod_lt _ hp
      obtain ⟨x, y, h1, h2, h3, h4⟩ := ih b (a % b) (by omega) h0
      refine ⟨x, y, ?_, h2, ?_, h3⟩
      · rw [pairsL_cons _ ha]
        have : modW a b = a % b := by unfold modW; rw [if_neg h0]
        rw [this, List.getLast?_cons, h1]; rfl
      · rw [BitVec.toNat_umod] at h4
        have e := Nat.mod_add_div a.toNat b.toNat
        rw [← e]
        exact Nat.mod_eq_zero_of_dvd (Nat.dvd_add (Nat.dvd_of_mod_eq_zero h4) (Nat.dvd_trans (Nat.dvd_of_mod_eq_zero h3) (Nat.dvd_mul_right _ _)))
end
end Go.Proofs.YtmbaimgncljmnaaDoor
