/- Going over cells: slices.All, Known. -/
import Derived.Test.YtknkepokkenokaaTagT
import Derived.Test.YtknkepokkenokaaRng
import Derived.OwnWalkIn
import Derived.TacticsInMore
import Derived.LoopNIn
import Derived.LoopIn
set_option linter.unusedVariables false
set_option linter.unusedSimpArgs false
namespace Go.Proofs.Ytknkepokkenokaa
open Go.RowKit
attribute [local go_sem] Oper.semAt_some

abbrev encC : Nat → Int × Int → Array Value := fun k x => #[.int .i64 k, .agg #[.int .u8 x.1, .int .u64 x.2]]
def AllRel (J : Nat → World → Prop) (n : Nat) (S : Nat → Prop) (w0 : World) (i : Value) (wr : World) : Prop := ∃ k : Nat, k ≤ n ∧ i = .int .i64 k ∧ J k wr ∧ Keep S w0 wr
set_option maxHeartbeats 4000000 in
set_option maxRecDepth 20000 in
theorem all1_seq (b : Nat) (A : Option Addr) (xs : List (Int × Int)) (cap : Nat) (w0 : World) (S : Nat → Prop) (hc : w0.cell? ⟨b, 0, none⟩ = some (.slice A xs.length cap)) (hS : SlAt w0 A (cellsC xs)) (hcap : xs.length ≤ cap) (hn : xs.length ≤ 100000) (hb : S b) (hA : cellsC xs ≠ [] → ∀ b' off, A = some ⟨b', off, none⟩ → S b') :
    Seq Try.prog 58 #[.pointer (some ⟨b, 0, none⟩)] encC xs S w0 := by
  intro l J Jx W hW hJ hJx hY h0
  have hcW : W.cell? ⟨b, 0, none⟩ = some (.slice A xs.length cap) := hW.cell hc hb
  have HS := Lib.hid hS
  have HY := Lib.hid hY
  have HJ := Lib.hid hJ
  have HX := Lib.hid hJx
  clear hY hJ hJx hS
  generalize hln : xs.length = n at *
  refine (callsIn_wide (n := 0)).1 (callsIn_of_wp Try.func58 rfl trivial ?_ rfl)
  simp only [Try.ntmps58, List.size_toArray, List.length_cons, List.length_nil, Nat.reduceAdd, Nat.reduceSub, Array.replicate_succ, Array.replicate_zero, List.push_toArray, List.append_toArray, List.nil_append, List.cons_append]
  gi_wp2
  gi_loopw [7] (fun i wr => AllRel J n S w0 i wr) (fun i _ => n - (intOf i).toNat)
  case atStart => exact ⟨0, Nat.zero_le _, rfl, h0, hW⟩
  case round =>
    obtain ⟨k, hk, rfl, hj, hb⟩ := hrel
    by_cases hlt' : k < n
    · obtain ⟨x, hx⟩ : ∃ x, xs[k]? = some x := ⟨xs[k], by simp [hln, hlt']⟩
      obtain ⟨b', off, rfl, hbl, hcell⟩ := HS.out.cell (cellsC_at (j := 0) hx (by rfl))
      have hc0 : wr.cell? ⟨b', off + k * 2, none⟩ = some (.int .u8 x.1) := hb.cell (by have := hcell (k * 2) _ (cellsC_at (j := 0) hx (by rfl)); simpa [Nat.add_assoc] using this) (hA (by intro h; exact absurd (cellsC_at (j := 0) hx (by rfl)) (by rw [h]; simp)) _ _ rfl)
      have hc1 : wr.cell? ⟨b', off + k * 2 + 1, none⟩ = some (.int .u64 x.2) := hb.cell (by have := hcell (k * 2 + 1) _ (cellsC_at (j := 1) hx (by rfl)); simpa [Nat.add_assoc] using this) (hA (by intro h; exact absurd (cellsC_at (j := 0) hx (by rfl)) (by rw [h]; simp)) _ _ rfl)
      have hj1 : J k (wr.alloc (.cells #[.int .u8 x.1, .int .u64 x.2] 55)) := HJ.out.alloc _ hj
      obtain ⟨fn, tmps, assign, body, hy, hR⟩ := HY.out k x _ hx hj1
      have hb2 := hb.alloc (.cells #[.int .u8 x.1, .int .u64 x.2] 55)
      try simp only [encC] at hy
      clear hcell hj hj1
      gi_wp2
      refine ⟨rfl, ?_⟩
      refine hR.mono ?_
      rintro e W' (⟨rfl, hJ', hk'⟩ | ⟨rfl, hJx', _⟩)
      · have hb3 := hb2.trans (hk'.mono (fun _ h => .inl h))
        clear hk' hc0 hc1 hy hR hb hb2
        gi_wp2
        exact ⟨⟨k + 1, by omega, by go_num, hJ', hb3⟩, by simp [intOf]; omega⟩
      · clear hc0 hc1 hy hR hb hb2
        gi_wp2
        refine bodyPost_ret (results_none rfl _ _ _) rfl ?_
        exact ⟨⟨_, rfl⟩, .inr ⟨k + 1, by omega, hJx'⟩⟩
    · obtain rfl : k = n := by omega
      gi_wp2
      go_end0
      exact ⟨⟨_, rfl⟩, .inl hj⟩

/-- What is known: the places and their bytes. -/
def knownL (up : Int) (xs : List (Int × Int)) : List (Nat × Int) := xs.zipIdx.filterMap fun p => if belowI p.1.2 up then some (p.2, p.1.1) else none
theorem knownL_take {up : Int} {xs : List (Int × Int)} {k : Nat} {x : Int × Int} (h : xs[k]? = some x) : knownL up (xs.take (k + 1)) = knownL up (xs.take k) ++ (if belowI x.2 up then [(k, x.1)] else []) := by
  have hk : k < xs.length := (List.getElem?_eq_some_iff.1 h).1
  unfold knownL
  rw [List.take_add_one, h, List.zipIdx_append, List.filterMap_append]
  congr 1
  have hl : 0 + (xs.take k).length = k := by simp; omega
  rw [hl]
  simp only [Option.toList_some, List.zipIdx_cons, List.zipIdx_nil, List.filterMap_cons, List.filterMap_nil]
  split <;> simp_all
theorem knownL_split (up : Int) (xs : List (Int × Int)) (k : Nat) : ∃ r, knownL up xs = knownL up (xs.take k) ++ r := by
  refine ⟨((xs.drop k).zipIdx (xs.take k).length).filterMap fun p => if belowI p.1.2 up then some (p.2, p.1.1) else none, ?_⟩
  conv => lhs; rw [← List.take_append_drop k xs]
  unfold knownL
  rw [List.zipIdx_append, List.filterMap_append, Nat.zero_add]
theorem knownL_at {up : Int} {xs : List (Int × Int)} {k : Nat} {x : Int × Int} (h : xs[k]? = some x) (hb : belowI x.2 up = true) : (knownL up xs)[(knownL up (xs.take k)).length]? = some (k, x.1) := by
  obtain ⟨r, hr⟩ := knownL_split up xs (k + 1)
  rw [hr, knownL_take h, hb, if_pos rfl, List.append_assoc, List.getElem?_append_right (Nat.le_refl _), Nat.sub_self]
  rfl
abbrev encK : Nat → Nat × Int → Array Value := fun _ x => #[.int .i64 x.1, .int .u8 x.2]
theorem alls_any (A : Option Addr) (n cap : Nat) (w : World) : Calls Try.prog 50 #[.slice A n cap] w fun e w' => e = .returned (.func (.func 58) #[] #[.pointer (some ⟨w.heap.size, 0, none⟩)]) ∧ w' = w.alloc (.cells #[.slice A n cap] 22) := by
  go_enter Try.func50, Try.ntmps50
  go_wp2_with fail
  go_ret
  exact ⟨rfl, rfl⟩
def KnI (J : Nat → World → Prop) (up : Int) (xs : List (Int × Int)) (y : Nat) (t : TypeId) (c : Array Value) (S : Nat → Prop) (w0 : World) (k : Nat) (V : World) : Prop := J (knownL up (xs.take k)).length V ∧ Blk V y c t ∧ Keep S w0 V
set_option maxHeartbeats 4000000 in
set_option maxRecDepth 20000 in
theorem known1_seq (b b2 : Nat) (A : Option Addr) (xs : List (Int × Int)) (cap : Nat) (up : Int) (w0 : World) (S : Nat → Prop) (hc : w0.cell? ⟨b, 0, none⟩ = some (.slice A xs.length cap)) (hu : w0.cell? ⟨b2, 0, none⟩ = some (.int .u64 up)) (hS : SlAt w0 A (cellsC xs)) (hcap : xs.length ≤ cap) (hn : xs.length ≤ 100000)
    (hb : S b) (hb2 : S b2) (hA : cellsC xs ≠ [] → ∀ b' off, A = some ⟨b', off, none⟩ → S b') :
    Seq Try.prog 49 #[.pointer (some ⟨b, 0, none⟩), .pointer (some ⟨b2, 0, none⟩)] encK (knownL up xs) S w0 := by
  intro l J Jx W hW hJ hJx hY h0
  have hlt := World.block_lt_of_cell? w0 ⟨b, 0, none⟩ hc
  have hcW : ∀ o : Obj, (W.alloc o).cell? ⟨b, 0, none⟩ = some (.slice A xs.length cap) := fun o => kept (World.below_alloc W o) (hW.cell hc hb)
  have HS := Lib.hid hS
  have HY := Lib.hid hY
  have HJ := Lib.hid hJ
  have HX := Lib.hid hJx
  have HU := Lib.hid hu
  have HW := Lib.hid hW
  have HAA := Lib.hid (fun V b S hc hS hb hA => all1_seq b A xs cap V S hc hS hcap hn hb hA)
  clear hY hJ hJx hS hu hW
  generalize hln : xs.length = n at *
  refine calls_marks Try.func49 rfl ?_
  simp only [Try.ntmps49, List.size_toArray, List.length_cons, List.length_nil, Nat.reduceAdd, Nat.reduceSub, Array.replicate_succ, Array.replicate_zero, List.push_toArray, List.append_toArray, List.nil_append, List.cons_append]
  go_wp2_with fail
  go_step3
  go_wp2_with fail
  refine wp_label ?_
  go_wp2_with fail
  refine (alls_any A n cap _).mono ?_
  rintro e w1 ⟨rfl, rfl⟩
  clear hcW
  go_wp2_with fail
  obtain ⟨W2, hW2⟩ : ∃ W2, ((W.alloc (.cells #[.func (.yield l) #[] #[]] 81)).alloc (.cells #[.slice A n cap] 22)) = W2 := ⟨_, rfl⟩
  have hz2 : W2.heap.size = W.heap.size + 2 := by rw [← hW2]; simp
  have hyB : Blk W2 W.heap.size #[.func (.yield l) #[] #[]] 81 := by
    rw [← hW2]
    have h1 : Blk (W.alloc (.cells #[.func (.yield l) #[] #[]] 81)) W.heap.size #[.func (.yield l) #[] #[]] 81 := heap_alloc_new _ _
    exact h1.grow (World.below_alloc _ _)
  have hsB : Blk W2 (W.heap.size + 1) #[.slice A n cap] 22 := by
    rw [← hW2]; have := heap_alloc_new (W.alloc (.cells #[.func (.yield l) #[] #[]] 81)) (.cells #[.slice A n cap] 22)
    rw [World.size_alloc] at this; exact this
  have hkW : Keep S w0 W2 := by rw [← hW2]; exact (HW.out.alloc _).alloc _
  have hj2 : J 0 W2 := by rw [← hW2]; exact HJ.out.alloc _ (HJ.out.alloc _ h0)
  try rw [World.size_alloc]
  try rw [hW2]
  refine wp_each (w0 := W2) (S := fun k => (S k ∧ k < W2.heap.size) ∨ (W.heap.size ≤ k ∧ k < W2.heap.size)) rfl (enters_of Try.func58 (by kernel_rfl) rfl)
    (HAA.out W2 (W.heap.size + 1) _ (by rw [hsB.cell]; rfl) (hkW.slAt HS.out hA) (.inr ⟨by omega, by omega⟩) (fun hne b' off h => by
      rcases HS.out with hz | ⟨b3, o3, h3, hl3, _⟩
      · exact absurd hz hne
      · rw [h3] at h; cases h; exact .inl ⟨hA hne _ _ h3, by have := hkW.size; omega⟩)) (fun k hk => by rcases hk with hk | hk <;> exact hk.2) (Keep.refl _ _) (fun _ _ => rfl)
    (KnI J up xs W.heap.size 81 #[.func (.yield l) #[] #[]] S w0) (fun c k V => c = .exit 0 ∧ Jx (knownL up (xs.take k)).length V) ?hI ?hIx ?h0 ?round ?done ?stop
  case hI =>
    exact fun k V V' row ⟨hj, hy, hk⟩ hg hr => ⟨ownFrom_mono HJ.out (by omega) _ V V' row hj hg hr, ownFrom_blk (β := Unit) () V V' row hy hg hr, ownFrom_keep (β := Unit) (fun k _ => by have := hkW.size; omega) () V V' row hk hg hr⟩
  case hIx =>
    exact fun c k V V' row ⟨h, hj⟩ hg hr => ⟨h, ownFrom_mono HX.out (by omega) _ V V' row hj hg hr⟩
  case h0 => exact ⟨hj2, hyB, hkW⟩
  case round =>
    intro l' k x V hx ⟨hj, hy, hk⟩ hl'
    have hsz := hy.lt
    gi_wp2
    refine ⟨(Keep.refl _ _).alloc _, fun V' => KnI J up xs W.heap.size 81 #[.func (.yield l) #[] #[]] S w0 k V' ∧ Blk V' V.heap.size #[.int .u8 x.1, .int .u64 x.2] 55, ?own, ⟨⟨HJ.out.alloc _ hj, hy.grow (World.below_alloc _ _), hk.alloc _⟩, heap_alloc_new _ _⟩, ?body⟩
    case own =>
      exact fun _ V V' row ⟨⟨hj, hy, hk⟩, hb⟩ hg hr => ⟨⟨ownFrom_mono HJ.out (by omega) _ V V' row hj hg hr, ownFrom_blk (β := Unit) () V V' row hy hg hr, ownFrom_keep (β := Unit) (fun k _ => by have := hkW.size; omega) () V V' row hk hg hr⟩, ownFrom_blk (β := Unit) () V V' row hb hg hr⟩
    case body =>
      rintro V' ⟨⟨hj', hy', hk'⟩, hx'⟩
      have cy := hy'.cell
      have cx := hx'.cell
      have cu := hk'.cell HU.out hb2
      have HYB := Lib.hid hy'
      have HKB := Lib.hid hk'
      clear hj hy hk
      by_cases hbl : belowI x.2 up = true
      · obtain ⟨fn, tmps, assign, body, hyy, hR⟩ := HY.out _ _ V' (knownL_at hx hbl) hj'
        try simp only [encK] at hyy
        gi_wp2
        refine ⟨trivial, rfl, (callR l' (known_any x.2 up V')).mono ?_⟩
        rintro e V2 ⟨rfl, rfl⟩
        rw [hbl]
        gi_wp2
        refine ⟨rfl, (show RoundIn (Fence.wide.inRound l') 0 _ _ _ _ _ _ _ _ from hR).mono ?_⟩
        rintro e V2 (⟨rfl, hJ2, hk2⟩ | ⟨rfl, hJx2, hk2⟩)
        · gi_wp2
          refine ⟨hk2.mono (fun q hq => by rcases hq with (hq | hq) | hq; · exact .inl hq.1
                                           all_goals exact .inr (by omega)), ?_, hk2.blk HYB.out (.inr (Nat.le_refl _)), HKB.out.trans (hk2.mono (fun q hq => .inl hq))⟩
          rw [knownL_take hx, hbl, if_pos rfl, List.length_append]
          exact hJ2
        · gi_wp2
          refine ⟨hk2.mono (fun q hq => by omega), rfl, ?_⟩
          rw [knownL_take hx, hbl, if_pos rfl, List.length_append]
          exact hJx2
      · have hbl' : belowI x.2 up = false := by simpa using hbl
        clear hbl
        gi_wp2
        refine ⟨trivial, rfl, (callR l' (known_any x.2 up V')).mono ?_⟩
        rintro e V2 ⟨rfl, rfl⟩
        rw [hbl']
        gi_wp2
        refine ⟨fun _ h => (by cases h), ?_⟩
        gi_wp2
        refine ⟨Keep.refl _ _, ?_, HYB.out, HKB.out⟩
        rw [knownL_take hx, hbl', if_neg (by decide), List.append_nil]
        exact hj'
  case done =>
    rintro V ⟨hj, hy, hk⟩ hD
    rw [List.take_of_length_le (Nat.le_refl _)] at hj
    go_wp2_with fail
    exact end_mark1 hD (results_none rfl _ _ _) ⟨⟨_, rfl⟩, .inl (HJ.out.putObj _ hj (by omega) hD rfl)⟩
  case stop =>
    rintro c k V hkn ⟨rfl, hj⟩ hD
    have hle : (knownL up (xs.take k)).length ≤ (knownL up xs).length := by
      obtain ⟨r, hr⟩ := knownL_split up xs k
      rw [hr, List.length_append]; omega
    go_wp2_with fail
    exact end_mark1 hD (results_none rfl _ _ _) ⟨⟨_, rfl⟩, .inr ⟨_, hle, HX.out.putObj _ hj (by omega) hD rfl⟩⟩
end Go.Proofs.Ytknkepokkenokaa
