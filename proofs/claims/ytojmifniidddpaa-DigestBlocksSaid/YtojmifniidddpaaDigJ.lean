/- What is laid on, as a range over a function. -/
import Derived.Test.YtojmifniidddpaaDigI
set_option linter.unusedVariables false
set_option linter.unusedSimpArgs false
namespace Go.Proofs.Ytojmifniidddpaa
open Go.RowKit

theorem Blk.other {w : World} {b : Nat} {c : Array Value} {t : TypeId} (h : Blk w b c t) {g : Nat} (hne : b ≠ g) (o : Nat) (v : Value) : Blk (w.setCell ⟨g, o, none⟩ v) b c t := (Below.heap_setCell w ⟨g, o, none⟩ v b hne).trans h
theorem owns_other {w : World} {base : Nat} {e : TypeId} {v : Value} {n : Nat} {xs : List Value} (h : w.ownsRow base e 1 v n xs) {b o : Nat} (hb : v.ownBlock ≠ some b) (u : Value) : (w.setCell ⟨b, o, none⟩ u).ownsRow base e 1 v n xs :=
  h.kept (row := some b) ⟨rfl, rfl, rfl, by simp, fun k _ hk => Below.heap_setCell w ⟨b, o, none⟩ u k (fun e => hk (by rw [e]))⟩ (.inr hb)
theorem owns_appZ {P : Program} {w : World} {ops : Array Oper} {rest : List Oper} {o : Oper} {a : Act} {Q : Exit → Act → World → Prop} (hgd : o.guard = none) (s x : Operand) (t tn : TypeId)
    (ho : o.op = .call { callee := .builtin .append, args := #[s, x], argTypes := #[t, tn] }) (base : Nat) (e : TypeId) (i : TypeInfo) (z z0 : Value) (kn : IntKind) (ht : P.underlying t = some (.slice e)) (htn : P.underlying tn = some (.int kn)) (hi : P.info? e = some i) (hz : i.zero = some z) (hsize : i.size = 1) (hby : i.bytes = 1) (hzc : z.cells = #[z0]) (h1 : z0.oneCell' = true)
    (v : Value) (n : Nat) (xs : List Value) (hs : a.eval s = v) (hown : w.ownsRow base e 1 v n xs) (hn0 : 0 < n) (m : Nat) (hx : a.eval x = .int .i64 m) (hnm : n + m ≤ 1000000) (hbase : base ≤ w.heap.size)
    (h : ∀ v' w', w'.ownsRow base e 1 v' (n + m) (xs ++ List.replicate m z0) → w.grownBy w' v.ownBlock → wpList P ops Q rest (a.put o.dst v') w') : wpList P ops Q (o :: rest) a w := by
  obtain ⟨v', w', hr, h2, h3⟩ := run_append_zeros_own w base t tn o.type e i z z0 kn ht htn hi hz hsize hby hzc h1 v n xs hown hn0 m hnm hbase
  exact Lib.wpList_append_run w hgd s x t tn ho _ _ hs hx v' w' hr (h v' w' h2 h3)
/-- The list that is gone over: where it lies. -/
def OwnAt (xs : List Nat) (base b g c : Nat) (w : World) : Prop :=
  base ≤ b ∧ base ≤ g ∧ g < w.heap.size ∧ w.cell? ⟨b, 0, none⟩ = some (.slice (some ⟨g, 0, none⟩) (xs.length + 1 + padN xs.length) c) ∧ xs.length + 1 + padN xs.length ≤ c ∧ ∀ j u, (natC (padS xs))[j]? = some u → w.cell? ⟨g, j, none⟩ = some u
set_option maxHeartbeats 4000000 in
set_option maxRecDepth 20000 in
theorem blocks_any (A : Option Addr) (xs : List Nat) (cap : Nat) (w : World) (hS : SlAt w A (natC xs)) (hcap : xs.length ≤ cap) (hn : xs.length ≤ 100000) (hnil : A = none → xs = []) :
    Calls Try.prog 9 #[.slice A xs.length cap] w fun e w' => ∃ b g c, e = .returned (.func (.func 22) #[] #[.pointer (some ⟨b, 0, none⟩)]) ∧ OwnAt xs w.heap.size b g c w' ∧ Below w.heap.size w w' := by
  obtain ⟨i0, hi, hz0, hz1, hz2⟩ := info_parts tinfo_b
  have HC := Lib.hid (cloneB_any A xs cap w hS hcap hn hnil)
  have hpn := padN_lt xs.length
  have HI := Lib.hid hi
  have HPL := Lib.hid (padL_all xs (padN xs.length))
  have HP1 := Lib.hid (show natC (xs ++ [1]) = natC xs ++ [.int .u8 1] by rw [natC_app]; rfl)
  have HLL := Lib.hid (padL_last xs (padN xs.length))
  have HSS := Lib.hid (show natC (padS xs) = (natC (padL xs (padN xs.length))).set (xs.length + padN xs.length) (.int .u8 ((lastN (padN xs.length) ||| 128 : Nat) : Int)) from natC_set _ _ _)
  have HOA := Lib.hid (fun b g c (W : World) (h1 : w.heap.size ≤ b) (h2 : w.heap.size ≤ g) (h3 : g < W.heap.size) h4 h5 h6 => show OwnAt xs w.heap.size b g c W from ⟨h1, h2, h3, h4, h5, h6⟩)
  have hpd : padN xs.length = (136 - (xs.length + 1) % 136) % 136 := rfl
  clear hS hnil
  generalize hln : xs.length = n at *
  generalize padN n = pn at *
  go_enter Try.func9, Try.ntmps9
  go_wp2_with fail
  refine HC.out.mono ?_
  rintro e w1 ⟨v1, rfl, hown1, hb1⟩
  have hz1s := hb1.size
  have HO1 := Lib.hid (hown1.alloc (.cells #[.int .u8 1] 5))
  have HB1 := Lib.hid (hb1.trans ((World.below_alloc w1 (.cells #[.int .u8 1] 5)).mono hz1s))
  have hc1 := newc w1 #[.int .u8 1] 5 0 (v := .int .u8 1) rfl
  have HLT := Lib.hid (hown1.lt)
  clear hown1 hb1 HC
  go_wp2_with (first | (at_builtin; refine owns_app1 rfl _ _ 22 rfl w.heap.size 5 i0 _ under_b HI.out hz0 hz1 hz2 rfl _ _ _ rfl HO1.out w1.heap.size (.int .u8 1) rfl hc1 rfl (by omega) (by simp; omega) ?_))
  intro v2 w2 hown2 hg2
  have hb2 : Below w.heap.size w w2 := HB1.out.grown hg2 HB1.out.size (fun k e => (HLT.out k e).1)
  rw [← HP1.out] at hown2
  obtain ⟨g2, cp2, rfl, hbg2, hgl2, hnc2, _⟩ := owns_some hown2 (by omega)
  have hz2s := hb2.size
  have HO2 := Lib.hid hown2
  have HB2 := Lib.hid hb2
  clear hown2 hb2 hg2 HLT HB1 HO1 hc1 HP1
  have hpz : ((136 - (n + 1) % 136 : Nat) : Int) % 136 = ((pn : Nat) : Int) := by omega
  clear hpd
  have HO3 := Lib.hid (HO2.out.alloc (.cells #[.slice (some ⟨g2, 0, none⟩) (n + 1) cp2] 22))
  have HB3 := Lib.hid (HB2.out.trans ((World.below_alloc w2 (.cells #[.slice (some ⟨g2, 0, none⟩) (n + 1) cp2] 22)).mono hz2s))
  have HC3 := Lib.hid (newc w2 #[.slice (some ⟨g2, 0, none⟩) (n + 1) cp2] 22 0 (v := .slice (some ⟨g2, 0, none⟩) (n + 1) cp2) rfl)
  go_wp2_with (first | (at_builtin; refine owns_appZ rfl _ _ 22 3 rfl w.heap.size 5 i0 _ (.int .u8 0) .i64 under_b under_i HI.out hz0 hz1 hz2 rfl rfl _ _ _ rfl HO3.out (by omega) pn (by first | rfl | (exact congrArg (Value.int .i64) (by omega))) (by omega) (by simp; omega) ?_))
  intro v3 w3 hown3 hg3
  have hb3 : Below w.heap.size w w3 := HB3.out.grown hg3 HB3.out.size (fun k e => by cases e; exact hbg2)
  have hc3 : w3.cell? ⟨w2.heap.size, 0, none⟩ = some (.slice (some ⟨g2, 0, none⟩) (n + 1) cp2) := by
    have := HC3.out
    unfold World.cell? at this ⊢
    rw [hg3.block w2.heap.size (by simp) (by simp [Value.ownBlock]; omega)]
    exact this
  have hbk3 : Blk w3 w2.heap.size #[.slice (some ⟨g2, 0, none⟩) (n + 1) cp2] 22 := by
    unfold Blk
    rw [hg3.block w2.heap.size (by simp) (by simp [Value.ownBlock]; omega)]
    exact heap_alloc_new _ _
  rw [← HPL.out] at hown3
  obtain ⟨g3, cp3, rfl, hbg3, hgl3, hnc3, hcell3⟩ := owns_some hown3 (by omega)
  have hne : g3 ≠ w2.heap.size := by
    intro h
    rcases hown3.2 with ⟨hv, _⟩ | ⟨g', cap', cur, hv, _, hh, _, _, hcs, _⟩
    · cases hv
    · cases hv
      rw [h] at hh
      have h1 := hbk3
      unfold Blk at h1
      rw [h1] at hh
      cases hh
  have hb4 := hb3.setCell (p := ⟨w2.heap.size, 0, none⟩) hz2s (.slice (some ⟨g3, 0, none⟩) (n + 1 + pn) cp3)
  have hown4 := owns_other hown3 (b := w2.heap.size) (o := 0) (by simp [Value.ownBlock]; exact hne) (.slice (some ⟨g3, 0, none⟩) (n + 1 + pn) cp3)
  have hbk4 := hbk3.set 0 (.slice (some ⟨g3, 0, none⟩) (n + 1 + pn) cp3)
  have hc4 := hbk4.cell 0
  have hl4 := hbk4.lt
  have hgl4 : g3 < (w3.setCell ⟨w2.heap.size, 0, none⟩ (.slice (some ⟨g3, 0, none⟩) (n + 1 + pn) cp3)).heap.size := by simpa using hgl3
  have hf3 := hbk3.free
  obtain ⟨_, _, hv4, _, _, _, hcell4⟩ := owns_some hown4 (by omega)
  cases hv4
  have hcl := hcell4 (n + pn) _ (natC_at HLL.out)
  have hfz := owns_free hown4 (n + pn)
  have hor := last_or pn
  have hOS := owns_set hown4 (j := n + pn) (by omega) (.int .u8 ((lastN pn ||| 128 : Nat) : Int))
  rw [← HSS.out] at hOS
  have HOS := Lib.hid hOS
  have HBS := Lib.hid (hb4.setCell (p := ⟨g3, n + pn, none⟩) hbg3 (.int .u8 ((lastN pn ||| 128 : Nat) : Int)))
  have HCS := Lib.hid ((Blk.other hbk4 (Ne.symm hne) (n + pn) (.int .u8 ((lastN pn ||| 128 : Nat) : Int))).cell 0)
  have HGL := Lib.hid hgl4
  clear hOS hown4 hb4 hcell4 hown3 hb3 hg3 hbk3 hcell3 HC3 HO3 HB3 HO2 HB2
  go_wp2_with fail
  go_ret
  exact ⟨_, g3, cp3, rfl, HOA.out _ _ _ _ hz2s hbg3 (by simpa using HGL.out) HCS.out hnc3 (fun j u hu => by
    obtain ⟨g, c, hv, _, _, _, hcc⟩ := owns_some HOS.out (by omega)
    cases hv
    exact hcc j u hu), HBS.out⟩
end Go.Proofs.Ytojmifniidddpaa
