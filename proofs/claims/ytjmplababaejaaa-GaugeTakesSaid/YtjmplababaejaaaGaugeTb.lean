/- What the law GaugeTakes' walks lean on. -/
import Derived.Test.YtjmplababaejaaaGaugeEb
import Derived.Test.YtjmplababaejaaaGaugeW
import Derived.Test.YtjmplababaejaaaGaugeH
set_option linter.unusedVariables false
set_option linter.unusedSimpArgs false
namespace Go.Proofs.Ytjmplababaejaaa
open Go.RowKit
attribute [local go_sem] Oper.semAt_some
theorem run_equalIn_func_nil {P : Program} (d : Nat) {t : TypeId} {ps rs : Array TypeId} {v : Bool} (h : P.underlying t = some (.func ps rs v)) (fn : Fn) (fi ca : Array Value) (w : World) : (Op.equalIn (d + 1) t (.func fn fi ca) .nilFunc).run P w = .ok false w := by
  simp [Op.equalIn, run_underlying h]
theorem run_equal_func_nil {P : Program} {t : TypeId} {ps rs : Array TypeId} {v : Bool} (h : P.underlying t = some (.func ps rs v)) (fn : Fn) (fi ca : Array Value) (w : World) : (Op.equal t (.func fn fi ca) .nilFunc).run P w = .ok false w := run_equalIn_func_nil 9999 h fn fi ca w
theorem run_eql_func_nil {P : Program} {t : TypeId} {ps rs : Array TypeId} {v : Bool} (h : P.underlying t = some (.func ps rs v)) (fn : Fn) (fi ca : Array Value) (w : World) : (binOp .eql t (.func fn fi ca) .nilFunc).run P w = .ok (.bool false) w := by
  simp only [binOp]
  simp [run_equal_func_nil h]
theorem eachIt_any (A : Option Addr) (g : Kn) (cs : List Kn) (cap m : Nat) (w : World) (hS : SlAt w A (cs.flatMap Kn.cells)) (hcap : cs.length ≤ cap) (hn : cs.length ≤ 1000) (hgd : Goodly g) (hcd : ∀ c ∈ cs, Goodly c) (hm : UptoG g cs m) :
    Calls Try.prog 21 #[.agg #[.int .u64 g.l, .int .u64 g.lo, .int .u64 g.hi, .int .u64 g.a], .slice A cs.length cap] w fun e w' => ∃ b b2 n0 : Nat, e = .returned (.func (.func 51) #[] #[.pointer (some ⟨b, 0, none⟩), .pointer (some ⟨b2, 0, none⟩)]) ∧ n0 = w'.heap.size ∧
      Seq Try.prog 51 #[.pointer (some ⟨b, 0, none⟩), .pointer (some ⟨b2, 0, none⟩)] encG (zsG g cs m) (fun k => k < n0) w' ∧ Below w.heap.size w w' := by
  have HQ := Lib.hid (fun b b2 V S hc0 hc1 hc2 hc3 hcl hS hb hb2 hA => each1_seq b b2 A g cs cap m V S hc0 hc1 hc2 hc3 hcl hS hcap hn hb hb2 hA hgd hcd hm)
  have HS := Lib.hid hS
  clear hS hm
  generalize hln : cs.length = ln at *
  go_enter Try.func21, Try.ntmps21
  go_wp2_with fail
  go_ret
  have hb : Below w.heap.size w ((w.alloc (.cells #[.int .u64 g.l, .int .u64 g.lo, .int .u64 g.hi, .int .u64 g.a] 25)).alloc (.cells #[.slice A ln cap] 48)) := by go_grown
  have n := fun j u h => kept (World.below_alloc (w.alloc (.cells #[.int .u64 g.l, .int .u64 g.lo, .int .u64 g.hi, .int .u64 g.a] 25)) (.cells #[.slice A ln cap] 48)) (newc w #[.int .u64 g.l, .int .u64 g.lo, .int .u64 g.hi, .int .u64 g.a] 25 j (v := u) h)
  refine ⟨_, _, _, rfl, rfl, HQ.out _ _ _ _ (n 0 _ rfl) (n 1 _ rfl) (n 2 _ rfl) (n 3 _ rfl) (by have := newc (w.alloc (.cells #[.int .u64 g.l, .int .u64 g.lo, .int .u64 g.hi, .int .u64 g.a] 25)) #[.slice A ln cap] 48 0 (v := .slice A ln cap) rfl; rw [World.size_alloc] at this; exact this) (HS.out.grow hb) (by simp; omega) (by simp) (fun hne b' off h => ?_), hb⟩
  rcases HS.out with hz | ⟨b3, o3, h3, hl3, _⟩
  · exact absurd hz hne
  · rw [h3] at h; cases h; have := hb.size; omega
theorem rightCost_true (y : Kn) (h : y.ok = true) (V : World) : Calls Try.prog 19 #[.agg #[.int .u64 y.l, .int .u64 y.lo, .int .u64 y.hi, .int .u64 y.a]] V fun e w' => e = .returned (.bool true) ∧ Below V.heap.size V w' := by
  have := refRightCost_any y.l y.lo y.hi y.a V
  rw [show rightB y.l y.lo y.hi y.a = true from h] at this
  exact this
theorem takes_same (g y : Kn) (hg : Goodly g) (hy : Goodly y) : ∃ (a : Kn) (kk : Int), (∀ V : World, Calls Try.prog 17 #[.agg #[.int .u64 g.l, .int .u64 g.lo, .int .u64 g.hi, .int .u64 g.a], .agg #[.int .u64 y.l, .int .u64 y.lo, .int .u64 y.hi, .int .u64 y.a]] V fun e w' => e = .returned (.tuple #[.agg #[.int .u64 a.l, .int .u64 a.lo, .int .u64 a.hi, .int .u64 a.a], .int .i64 kk, .int .i64 0]) ∧ Below V.heap.size V w') ∧
    (∀ V : World, Calls Try.prog 20 #[.agg #[.int .u64 g.l, .int .u64 g.lo, .int .u64 g.hi, .int .u64 g.a], .agg #[.int .u64 y.l, .int .u64 y.lo, .int .u64 y.hi, .int .u64 y.a]] V fun e w' => e = .returned (.tuple #[.agg #[.int .u64 a.l, .int .u64 a.lo, .int .u64 a.hi, .int .u64 a.a], .int .i64 kk]) ∧ Below V.heap.size V w') :=
  ⟨takeG g y, takeK g y, fun V => take_right g y V (by rw [hg.1, hy.1]; rfl) ⟨hg.2.1, hy.2.1⟩ hg.2.2, fun V => refTake_right g y V hg.1 hy.1 ⟨hg.2.1, hy.2.1⟩⟩
theorem check_good (g : Kn) (cs : List Kn) (A : Option Addr) (cap : Nat) (V : World) (hn : cs.length ≤ 1000) (hV : SlAt V A (cs.flatMap Kn.cells)) (hgd : Goodly g) (hcd : ∀ c ∈ cs, Goodly c) :
    Calls Try.prog 16 #[.agg #[.int .u64 g.l, .int .u64 g.lo, .int .u64 g.hi, .int .u64 g.a], .slice A cs.length cap] V fun e w' => e = .returned (.int .i64 0) ∧ Below V.heap.size V w' := by
  have h := check_any g cs A cap V hn (knAt_of_sl hV)
  have hall : (g :: cs).all Kn.ok = true := by
    rw [List.all_eq_true]; intro x hx
    rcases List.mem_cons.1 hx with rfl | hx
    · exact hgd.1
    · exact (hcd x hx).1
  rw [hall, if_pos rfl] at h
  exact h
theorem refTake_yes {g : Kn} {xs : List Kn} {m k : Nat} {y : Kn} (hgd : Goodly g) (hcd : ∀ c ∈ xs, Goodly c) (hm : UptoG g xs m) (hk : k < m) (hy : xs[k]? = some y) (V : World) :
    Calls Try.prog 20 #[.agg #[.int .u64 (gK g xs k).l, .int .u64 (gK g xs k).lo, .int .u64 (gK g xs k).hi, .int .u64 (gK g xs k).a], .agg #[.int .u64 y.l, .int .u64 y.lo, .int .u64 y.hi, .int .u64 y.a]] V fun e w' => e = .returned (.tuple #[.agg #[.int .u64 (gK g xs (k + 1)).l, .int .u64 (gK g xs (k + 1)).lo, .int .u64 (gK g xs (k + 1)).hi, .int .u64 (gK g xs (k + 1)).a], .int .i64 0]) ∧ Below V.heap.size V w' := by
  have hg := gK_good hgd hcd k (by have := hm.1; omega)
  have hc := hcd y (List.mem_of_getElem? hy)
  have h := refTake_right (gK g xs k) y V hg.1 hc.1 ⟨hg.2.1, hc.2.1⟩
  have e := hm.2.1 k hk
  have ha := atC_of hy
  rw [ha] at e
  rw [e] at h
  simp only [gK, ha]
  exact h
theorem refTake_no {g : Kn} {xs : List Kn} {m : Nat} {y : Kn} (hgd : Goodly g) (hcd : ∀ c ∈ xs, Goodly c) (hm : UptoG g xs m) (hy : xs[m]? = some y) : ∃ (gx : Kn) (kx : Int), kx ≠ 0 ∧ ∀ V : World,
    Calls Try.prog 20 #[.agg #[.int .u64 (gK g xs m).l, .int .u64 (gK g xs m).lo, .int .u64 (gK g xs m).hi, .int .u64 (gK g xs m).a], .agg #[.int .u64 y.l, .int .u64 y.lo, .int .u64 y.hi, .int .u64 y.a]] V fun e w' => e = .returned (.tuple #[.agg #[.int .u64 gx.l, .int .u64 gx.lo, .int .u64 gx.hi, .int .u64 gx.a], .int .i64 kx]) ∧ Below V.heap.size V w' := by
  have hl := (List.getElem?_eq_some_iff.1 hy).1
  have hg := gK_good hgd hcd m hm.1
  have hc := hcd y (List.mem_of_getElem? hy)
  refine ⟨takeG (gK g xs m) y, takeK (gK g xs m) y, ?_, fun V => refTake_right (gK g xs m) y V hg.1 hc.1 ⟨hg.2.1, hc.2.1⟩⟩
  have := hm.2.2 hl
  rwa [atC_of hy] at this
theorem check_bad (g : Kn) (cs : List Kn) (A : Option Addr) (cap : Nat) (V : World) (hn : cs.length ≤ 1000) (hV : SlAt V A (cs.flatMap Kn.cells)) (hb : (g :: cs).all Kn.ok = false) :
    Calls Try.prog 16 #[.agg #[.int .u64 g.l, .int .u64 g.lo, .int .u64 g.hi, .int .u64 g.a], .slice A cs.length cap] V fun e w' => e = .returned (.int .i64 2) ∧ Below V.heap.size V w' := by
  have h := check_any g cs A cap V hn (knAt_of_sl hV)
  rw [hb, if_neg (by simp)] at h
  exact h
theorem rightCost_is (y : Kn) (V : World) : Calls Try.prog 19 #[.agg #[.int .u64 y.l, .int .u64 y.lo, .int .u64 y.hi, .int .u64 y.a]] V fun e w' => e = .returned (.bool y.ok) ∧ Below V.heap.size V w' := refRightCost_any y.l y.lo y.hi y.a V
theorem takes_same2 (g y : Kn) (hg : g.ok = true) (hy : y.ok = true) (l1 : 0 ≤ g.lo) (l2 : 0 ≤ y.lo) (ua : U g.a) : ∃ (a : Kn) (kk : Int), (∀ V : World, Calls Try.prog 17 #[.agg #[.int .u64 g.l, .int .u64 g.lo, .int .u64 g.hi, .int .u64 g.a], .agg #[.int .u64 y.l, .int .u64 y.lo, .int .u64 y.hi, .int .u64 y.a]] V fun e w' => e = .returned (.tuple #[.agg #[.int .u64 a.l, .int .u64 a.lo, .int .u64 a.hi, .int .u64 a.a], .int .i64 kk, .int .i64 0]) ∧ Below V.heap.size V w') ∧
    (∀ V : World, Calls Try.prog 20 #[.agg #[.int .u64 g.l, .int .u64 g.lo, .int .u64 g.hi, .int .u64 g.a], .agg #[.int .u64 y.l, .int .u64 y.lo, .int .u64 y.hi, .int .u64 y.a]] V fun e w' => e = .returned (.tuple #[.agg #[.int .u64 a.l, .int .u64 a.lo, .int .u64 a.hi, .int .u64 a.a], .int .i64 kk]) ∧ Below V.heap.size V w') :=
  ⟨takeG g y, takeK g y, fun V => take_right g y V (by rw [hg, hy]; rfl) ⟨l1, l2⟩ ua, fun V => refTake_right g y V hg hy ⟨l1, l2⟩⟩
set_option maxHeartbeats 4000000 in
set_option maxRecDepth 20000 in
theorem none1_seq (b b2 : Nat) (A : Option Addr) (g : Kn) (cs : List Kn) (cap : Nat) (w0 : World) (S : Nat → Prop) (hc0 : w0.cell? ⟨b, 0, none⟩ = some (.int .u64 g.l)) (hc1 : w0.cell? ⟨b, 1, none⟩ = some (.int .u64 g.lo)) (hc2 : w0.cell? ⟨b, 2, none⟩ = some (.int .u64 g.hi)) (hc3 : w0.cell? ⟨b, 3, none⟩ = some (.int .u64 g.a))
    (hcl : w0.cell? ⟨b2, 0, none⟩ = some (.slice A cs.length cap)) (hS : SlAt w0 A (cs.flatMap Kn.cells)) (hn : cs.length ≤ 1000)
    (hb : S b) (hb2 : S b2) (hA : cs.flatMap Kn.cells ≠ [] → ∀ b' off, A = some ⟨b', off, none⟩ → S b') (hbad : (g :: cs).all Kn.ok = false) :
    Seq Try.prog 51 #[.pointer (some ⟨b, 0, none⟩), .pointer (some ⟨b2, 0, none⟩)] encG [] S w0 := by
  intro l J Jx W0 hW hJ hJx hY h0
  have hWA := World.below_alloc W0 (.cells #[.func (.yield l) #[] #[]] 87)
  have d0 := kept hWA (hW.cell hc0 hb)
  have d1 := kept hWA (hW.cell hc1 hb)
  have d2 := kept hWA (hW.cell hc2 hb)
  have d3 := kept hWA (hW.cell hc3 hb)
  have dl := kept hWA (hW.cell hcl hb2)
  have hSW : SlAt W0 A (cs.flatMap Kn.cells) := hW.slAt hS hA
  have HCK := Lib.hid (check_bad g cs A cap (W0.alloc (.cells #[.func (.yield l) #[] #[]] 87)) hn (hSW.grow hWA) hbad)
  have HJ := Lib.hid hJ
  have HY := Lib.hid hY
  have HX := Lib.hid hJx
  clear hY hJ hJx hS hSW hbad hWA
  generalize hln : cs.length = ln at *
  refine calls_marks Try.func51 rfl ?_
  simp only [Try.ntmps51, List.size_toArray, List.length_cons, List.length_nil, Nat.reduceAdd, Nat.reduceSub, Array.replicate_succ, Array.replicate_zero, List.push_toArray, List.append_toArray, List.nil_append, List.cons_append]
  go_wp2_with fail
  go_step3
  go_wp2_with fail
  refine HCK.out.mono ?_
  rintro e w1 ⟨rfl, hb1⟩
  have hj1 : J 0 w1 := HJ.out.grow (HJ.out.alloc _ h0) hb1
  go_wp2_with fail
  try rw [Exit.noGoto_ret]
  exact ret_mark0 (results_none rfl _ _ _) ⟨⟨_, rfl⟩, .inl hj1⟩
theorem eachNone_any (A : Option Addr) (g : Kn) (cs : List Kn) (cap : Nat) (w : World) (hS : SlAt w A (cs.flatMap Kn.cells)) (hn : cs.length ≤ 1000) (hbad : (g :: cs).all Kn.ok = false) :
    Calls Try.prog 21 #[.agg #[.int .u64 g.l, .int .u64 g.lo, .int .u64 g.hi, .int .u64 g.a], .slice A cs.length cap] w fun e w' => ∃ b b2 n0 : Nat, e = .returned (.func (.func 51) #[] #[.pointer (some ⟨b, 0, none⟩), .pointer (some ⟨b2, 0, none⟩)]) ∧ n0 = w'.heap.size ∧
      Seq Try.prog 51 #[.pointer (some ⟨b, 0, none⟩), .pointer (some ⟨b2, 0, none⟩)] encG [] (fun k => k < n0) w' ∧ Below w.heap.size w w' := by
  have HQ := Lib.hid (fun b b2 V S hc0 hc1 hc2 hc3 hcl hS hb hb2 hA => none1_seq b b2 A g cs cap V S hc0 hc1 hc2 hc3 hcl hS hn hb hb2 hA hbad)
  have HS := Lib.hid hS
  clear hS hbad
  generalize hln : cs.length = ln at *
  go_enter Try.func21, Try.ntmps21
  go_wp2_with fail
  go_ret
  have hb : Below w.heap.size w ((w.alloc (.cells #[.int .u64 g.l, .int .u64 g.lo, .int .u64 g.hi, .int .u64 g.a] 25)).alloc (.cells #[.slice A ln cap] 48)) := by go_grown
  have n := fun j u h => kept (World.below_alloc (w.alloc (.cells #[.int .u64 g.l, .int .u64 g.lo, .int .u64 g.hi, .int .u64 g.a] 25)) (.cells #[.slice A ln cap] 48)) (newc w #[.int .u64 g.l, .int .u64 g.lo, .int .u64 g.hi, .int .u64 g.a] 25 j (v := u) h)
  refine ⟨_, _, _, rfl, rfl, HQ.out _ _ _ _ (n 0 _ rfl) (n 1 _ rfl) (n 2 _ rfl) (n 3 _ rfl) (by have := newc (w.alloc (.cells #[.int .u64 g.l, .int .u64 g.lo, .int .u64 g.hi, .int .u64 g.a] 25)) #[.slice A ln cap] 48 0 (v := .slice A ln cap) rfl; rw [World.size_alloc] at this; exact this) (HS.out.grow hb) (by simp; omega) (by simp) (fun hne b' off h => ?_), hb⟩
  rcases HS.out with hz | ⟨b3, o3, h3, hl3, _⟩
  · exact absurd hz hne
  · rw [h3] at h; cases h; have := hb.size; omega
/-- All of the first so many are right. -/
def rKf (xs : List Kn) (k : Nat) : Bool := (xs.take k).all Kn.ok
theorem rKf_step {xs : List Kn} {k : Nat} {y : Kn} (h : xs[k]? = some y) : rKf xs (k + 1) = (rKf xs k && y.ok) := by
  unfold rKf; rw [List.take_add_one, h]; simp [List.all_append]
theorem rKf_end (xs : List Kn) : rKf xs xs.length = xs.all Kn.ok := by unfold rKf; rw [List.take_length]
end Go.Proofs.Ytjmplababaejaaa
