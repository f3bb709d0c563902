/- What comes behind bytes, by the document. -/
import Derived.Test.YtojmifniidddpaaDigH
set_option linter.unusedVariables false
set_option linter.unusedSimpArgs false
namespace Go.Proofs.Ytojmifniidddpaa
open Go.RowKit

theorem run_append_nosrc {P : Program} {w : World} {t ty e : TypeId} {i : TypeInfo} (ht : P.underlying t = some (.slice e)) (hi : P.info? e = some i) {base n : Nat} {v : Value} {xs : List Value} (h : w.ownsRow base e 1 v n xs) :
    (Builtin.append_ #[t, t] ty #[v, .slice none 0 0]).run P w = .ok v w := by
  rcases h.2 with ⟨rfl, rfl⟩ | ⟨g, cap, cur, rfl, hbg, hg, hnc, hcm, hcs, htake⟩
  · simp [Builtin.append_, run_underlying ht, sizeOf, typeInfo, hi, Builtin.lenOf, Builtin.firstCells]
  · simp [Builtin.append_, run_underlying ht, sizeOf, typeInfo, hi, Builtin.lenOf, Builtin.firstCells, hnc, storeCells]
theorem owns_appS {P : Program} {w : World} {ops : Array Oper} {rest : List Oper} {o : Oper} {a : Act} {Q : Exit → Act → World → Prop} (hgd : o.guard = none) (s x : Operand) (t : TypeId)
    (ho : o.op = .call { callee := .builtin .append, args := #[s, x], argTypes := #[t, t] }) (base : Nat) (e : TypeId) (i : TypeInfo) (z : Value) (ht : P.underlying t = some (.slice e)) (hi : P.info? e = some i) (hz : i.zero = some z) (hsize : i.size = 1) (hby : i.bytes = 1) (hzs : z.cells.size = 1)
    (v : Value) (n : Nat) (xs : List Value) (hs : a.eval s = v) (hown : w.ownsRow base e 1 v n xs) (A : Option Addr) (m c : Nat) (news : List Value) (hx : a.eval x = .slice A m c) (hl : news.length = m) (hS : SlAt w A news) (hnil : A = none → m = 0 ∧ c = 0) (h1 : ∀ u ∈ news, u.oneCell' = true) (hn : n + m ≤ 1000000) (hbase : base ≤ w.heap.size)
    (h : ∀ v' w', w'.ownsRow base e 1 v' (n + m) (xs ++ news) → w.grownBy w' v.ownBlock → wpList P ops Q rest (a.put o.dst v') w') : wpList P ops Q (o :: rest) a w := by
  rcases A with _ | A
  · obtain ⟨rfl, rfl⟩ := hnil rfl
    obtain rfl : news = [] := List.eq_nil_of_length_eq_zero hl
    refine wpList_plain hgd fun K hK => ?_
    have hrun := run_append_nosrc (ty := o.type) ht hi hown
    unfold Oper.wp execOp
    simp only [ho, resolve, invoke, builtin, Sem.run_bind, Sem.run_pure, Result.andThen_ok, List.map_toArray, List.map_cons, List.map_nil, hs, hx, hrun]
    refine hK _ _ (h _ _ ?_ ⟨rfl, rfl, rfl, Nat.le_refl _, fun _ _ _ => rfl⟩)
    rw [List.append_nil]
    exact hown
  · exact wpList_append_own w hgd s x t ho base e i z 1 1 ht hi hz hsize hby hzs (by decide) v n xs hs hown A m c news hx (by omega) (fun j u hu => by
      obtain ⟨b', off', hA, _, hcs⟩ := hS.cell hu
      cases hA
      rw [Addr.add_lit]
      exact hcs j u hu) h1 (by simp only [maxLen]; omega) (by omega) hbase fun v' w' h2 h3 _ => h v' w' h2 h3
/-- What is known of a padded list under way. -/
def PadRel (xs : List Nat) (w : World) (v : Value) (wr : World) : Prop :=
  ∃ k : Nat, k ≤ padN xs.length ∧ wr.ownsRow w.heap.size 5 1 v (xs.length + 1 + k) (natC (padL xs k)) ∧ Below w.heap.size w wr
def padM (n : Nat) (v : Value) : Nat := match v with | .slice _ m _ => n + 1 + padN n - m | _ => 0
set_option maxHeartbeats 4000000 in
set_option maxRecDepth 20000 in
theorem padded_any (A : Option Addr) (xs : List Nat) (cap : Nat) (w : World) (hS : SlAt w A (natC xs)) (hcap : xs.length ≤ cap) (hn : xs.length ≤ 100000) (hnil : A = none → xs.length = 0 ∧ cap = 0) :
    Calls Try.prog 8 #[.slice A xs.length cap] w (Gives w (natC (padS xs)) (xs.length + 1 + padN xs.length)) := by
  obtain ⟨i0, hi, hz0, hz1, hz2⟩ := info_parts tinfo_b
  have HS := Lib.hid (hS.grow (World.below_alloc w (.cells #[] 5)))
  have hown : (w.alloc (.cells #[] 5)).ownsRow w.heap.size 5 1 (.slice (some ⟨w.heap.size, 0, none⟩) 0 0) 0 [] := World.ownsRow_made w #[] 0 (Nat.le_refl _) (Nat.zero_le _) rfl
  have HO := Lib.hid hown
  have HL := Lib.hid (natC_len xs)
  have H1 := Lib.hid (natC_one xs)
  have HI := Lib.hid hi
  have HN := Lib.hid hnil
  have HP := Lib.hid (fun k => natC_app (padL xs k) [0])
  have HPL := Lib.hid (fun k => padL_succ xs k)
  have HLL := Lib.hid (padL_last xs (padN xs.length))
  have hpn := padN_lt xs.length
  have HM := Lib.hid (fun k => @pad_more xs.length k)
  have hpm := pad_mod xs.length
  clear hS hown hnil
  have HPR := Lib.hid (fun (v : Value) (wr : World) (k : Nat) h1 h2 h3 => show PadRel xs w v wr from ⟨k, h1, h2, h3⟩)
  have HSS := Lib.hid (show natC (padS xs) = (natC (padL xs (padN xs.length))).set (xs.length + padN xs.length) (.int .u8 ((lastN (padN xs.length) ||| 128 : Nat) : Int)) from natC_set _ _ _)
  have HPZ := Lib.hid (show natC (padL xs 0) = natC xs ++ [.int .u8 1] by rw [padL_zero, natC_app]; rfl)
  generalize hln : xs.length = n at *
  generalize hpe : padN n = pn at *
  go_enter Try.func8, Try.ntmps8
  go_wp2_with (first | (at_builtin; refine owns_appS rfl _ _ 22 rfl w.heap.size 5 i0 _ under_b HI.out hz0 hz1 hz2 rfl _ _ _ rfl HO.out A n cap (natC xs) rfl HL.out HS.out HN.out H1.out (by omega) (by simp) ?_))
  intro v1 w1 hown1 hg1
  have hb1 : Below w.heap.size w w1 := (World.below_alloc w (.cells #[] 5)).grown hg1 (by simp) (fun k e => by cases e; exact Nat.le_refl _)
  try rw [Nat.zero_add] at hown1
  try rw [List.nil_append] at hown1
  have hz1s := hb1.size
  have HO1 := Lib.hid (hown1.alloc (.cells #[.int .u8 1] 5))
  have HB1 := Lib.hid (hb1.trans ((World.below_alloc w1 (.cells #[.int .u8 1] 5)).mono hz1s))
  have hc1 := newc w1 #[.int .u8 1] 5 0 (v := .int .u8 1) rfl
  have HLT := Lib.hid (hown1.lt)
  clear hown1 hg1 hb1
  go_wp2_with (first | (at_builtin; refine owns_app1 rfl _ _ 22 rfl w.heap.size 5 i0 _ under_b HI.out hz0 hz1 hz2 rfl _ _ _ rfl HO1.out w1.heap.size (.int .u8 1) rfl hc1 rfl (by omega) (by simp; omega) ?_))
  intro v2 w2 hown2 hg2
  have hb2 : Below w.heap.size w w2 := HB1.out.grown hg2 HB1.out.size (fun k e => (HLT.out k e).1)
  rw [← HPZ.out] at hown2
  have HST := Lib.hid (HPR.out v2 w2 0 (Nat.zero_le _) hown2 hb2)
  clear hown2 hg2 hb2 HLT HPR HPZ HO HS HO1 HB1 hc1
  go_wp2_with fail
  go_loopw [3] (fun v wr => PadRel xs w v wr) (fun v _ => padM n v)
  case atStart => exact HST.out
  case round =>
    clear HST
    obtain ⟨k, hk, hown, hb⟩ := hrel
    rw [hln] at hown hk
    rw [hpe] at hk
    obtain ⟨g, cp, rfl, hbg, hgl, hnc, hcell⟩ := owns_some hown (by omega)
    have hsz := hb.size
    by_cases hlt : k < pn
    · have hm := HM.out k hlt
      have hmd : decide (((n + 1 + k : Nat) : Int) % 136 = 0) = false := by
        apply decide_eq_false; intro h; apply hm; omega
      have HO2 := Lib.hid (hown.alloc (.cells #[.int .u8 0] 5))
      have HB2 := Lib.hid (hb.trans ((World.below_alloc wr (.cells #[.int .u8 0] 5)).mono hsz))
      have hc1 := newc wr #[.int .u8 0] 5 0 (v := .int .u8 0) rfl
      clear hown hb hcell hm
      go_wp2_with (first | (at_builtin; refine owns_app1 rfl _ _ 22 rfl w.heap.size 5 i0 _ under_b HI.out hz0 hz1 hz2 rfl _ _ _ rfl HO2.out wr.heap.size (.int .u8 0) rfl hc1 rfl (by omega) (by simp; omega) ?_))
      intro v3 w3 hown3 hg3
      have hb3 : Below w.heap.size w w3 := HB2.out.grown hg3 HB2.out.size (fun k e => by cases e; exact hbg)
      have hO3 : w3.ownsRow w.heap.size 5 1 v3 (n + 1 + (k + 1)) (natC (padL xs (k + 1))) := by
        rw [HPL.out, HP.out]; exact hown3
      obtain ⟨g3, cp3, rfl, _, _, _, _⟩ := owns_some hO3 (by omega)
      have HO3 := Lib.hid hO3
      have HB3 := Lib.hid hb3
      clear hown3 hg3 hO3 hb3 HO2 HB2
      go_wp2_with fail
      refine ⟨⟨k + 1, by rw [hln, hpe]; omega, by rw [hln]; exact HO3.out, HB3.out⟩, ?_⟩
      simp only [padM, hpe]
      omega
    · obtain rfl : k = pn := by omega
      have hmd : decide (((n + 1 + k : Nat) : Int) % 136 = 0) = true := by
        apply decide_eq_true; omega
      have hc := hcell (n + k) _ (natC_at HLL.out)
      have hfz := owns_free hown (n + k)
      have hor := last_or k
      have hw : IntKind.i64.wrap (((n + 1 + k : Nat) : Int) - 1) = ((n + k : Nat) : Int) := by rw [IntKind.wrap_i64]; omega
      have hOS := owns_set hown (j := n + k) (by omega) (.int .u8 ((lastN k ||| 128 : Nat) : Int))
      rw [← HSS.out] at hOS
      have HOS := Lib.hid hOS
      have HBS := Lib.hid (hb.setCell (p := ⟨g, n + k, none⟩) hbg (.int .u8 ((lastN k ||| 128 : Nat) : Int)))
      clear hOS hown hb hcell
      go_wp2_with fail
      go_ret
      obtain ⟨A, c, hv, h1, h2, h3⟩ := slice_of_owns HOS.out
      rw [hv] at h3
      exact ⟨A, c, congrArg Ending.returned hv, h1, h2, HBS.out, h3⟩
end Go.Proofs.Ytojmifniidddpaa
