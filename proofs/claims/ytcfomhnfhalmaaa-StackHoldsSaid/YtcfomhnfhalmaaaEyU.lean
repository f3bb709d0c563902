/- Functions that write one block of ours, as contracts of the evaluator. No program of its own. No condition. -/
import Derived.Test.YtcfomhnfhalmaaaEyO
set_option linter.unusedVariables false
set_option linter.unusedSimpArgs false
namespace Go.Proofs.Ytcfomhnfhalmaaa
open Go.RowKit

/-- The function is handed a pointer to a block of these cells, and plain arguments: it answers V, the block has these cells then, and nothing else that lay there has changed. -/
def Upd1 (P : Program) (f : FuncId) (t : TypeId) (C args : List Value) (V : Value) (C' : List Value) : Prop := ∀ (w : World) (b : Nat), Blk w b C.toArray t → Calls P f (.pointer (some ⟨b, 0, none⟩) :: args).toArray w fun e w' =>
  e = .returned V ∧ Blk w' b C'.toArray t ∧ w.grownBy w' (some b)
def updK (t : TypeId) (r : AV) (c' : List AV) : AV → AM → Prop := fun v m => (v, m.H.take 1) = (r, [AIt.cells c' t])
theorem upd_of_ev {E : Env} (hE : EnvOK E) (hr : E.rows = noRows) (n : Nat) {f : FuncId} {t : TypeId} {args c c' : List AV} {r : AV} {V : Value} {C C' Args : List Value} {ds : List Bool} (h : Is (evCall E n f (.ptr 0 0 :: args) ⟨[.cells c t], ds, allW⟩ (updK t r c')))
    (hV : r.told? = some V) (hc : AV.vals? c = some C) (hc' : AV.vals? c' = some C') (ha : AV.plains? args = some Args) : Upd1 E.P f t C Args V C' := by
  intro w b hb
  obtain ⟨v, m', hk, hlo, hen, hcall⟩ := call_ok hE (ev_sound hE n) f _ _ _ h.is
  unfold updK at hk
  simp only [Prod.mk.injEq] at hk
  obtain ⟨rfl, hH⟩ := hk
  have hl : b < w.heap.size := hb.lt
  let p : RBlk := ⟨b, 0, .cells C.toArray t (0, 0)⟩
  have hph : p.num.ph = false := rfl
  have hB0 : RelB E.rows (nums [p]) [.cells c t] [p] := RelB.snoc (H := []) (Hr := []) RelB.nil (.cells (RelL.of_vals hc) hph)
  have hA0 : Apart [.cells c t] [p] := fun l m it jt q q' hne h1 h2 => by
    have := (List.getElem?_eq_some_iff.1 h1).1
    have := (List.getElem?_eq_some_iff.1 h2).1
    simp at *; omega
  have hO0 : OwnM [.cells c t] [p] w := fun l it q h1 h2 hq => by
    have h3 := (List.getElem?_eq_some_iff.1 h1).1
    obtain rfl : l = 0 := by simp at h3; omega
    simp only [List.getElem?_cons_zero, Option.some.injEq] at h2
    subst h2
    exact ⟨hl, fun _ => hb⟩
  refine (hcall [p] w (.pointer (some ⟨b, 0, none⟩) :: Args) (.cons (.ptr (q := p.num) rfl) (RelL.of_plains ha)) hB0 hA0 ⟨hO0, by rw [hr]; exact rd_no _ _⟩).mono ?_
  rintro e w' ⟨V', Hr', rfl, hv, hB, hn, hO, hS⟩
  have hVV : V' = V := hv.told hV
  subst hVV
  have hH0 : m'.H[0]? = some (.cells c' t) := by
    have := congrArg (·[0]?) hH
    simpa [List.getElem?_take] using this
  obtain ⟨b', s', Cs, g1, g2⟩ := hB.get hH0
  obtain ⟨σ, e1, _⟩ := hS.ext
  have hq : (nums Hr')[0]? = some p.num := by rw [e1]; rfl
  obtain ⟨p', g3, g4⟩ := nums_at hq
  rw [g1] at g3; cases g3
  have hbb : b' = b := by have := congrArg Num.b g4; simpa [p, RBlk.num] using this.symm
  subst hbb
  have hCs := g2.vals hc'
  subst hCs
  have hph' : (⟨b', s', .cells Cs.toArray t (0, 0)⟩ : RBlk).num.ph = false := by rw [← g4]; rfl
  refine ⟨rfl, (hO.1 0 _ _ hH0 g1 hph').2 rfl, hS.os, hS.tape, hS.output, hS.size, fun k hk hne => hS.block k hk fun l q hl hqp hqb => ?_⟩
  exfalso
  cases l with
  | zero =>
    simp [nums] at hl
    subst hl
    exact hne (by rw [← hqb]; rfl)
  | succ l => simp [nums] at hl
/-- The same as a row of contracts that write. -/
theorem ctm_of_upd {P : Program} {R : Rws} {f : FuncId} {H : Mem} {wr : Nat → Bool} {l : Nat} {t : TypeId} {c c' args : List AV} {r : AV} {V : Value} {C C' Args0 : List Value} (hl : H[l]? = some (.cells c t)) (hwr : wr l = true)
    (hc : AV.vals? c = some C) (hc' : AV.vals? c' = some C') (hlen : C'.length = C.length) (ha : AV.plains? args = some Args0) (hV : r.told? = some V) (hu : Upd1 P f t C Args0 V C') {Hr : List RBlk} {w : World} {Args : List Value} (hA : RelL R (nums Hr) (.ptr l 0 :: args) Args) (hB : RelB R (nums Hr) H Hr) (hn : Apart H Hr) (hO : OwnK R H Hr w) :
    Calls P f Args.toArray w fun e w' => ∃ V Hr', e = .returned V ∧ Rel R (nums Hr') r V ∧ RelB R (nums Hr') ((dropR l H).set l (.cells c' t)) Hr' ∧ Apart ((dropR l H).set l (.cells c' t)) Hr' ∧ OwnK R ((dropR l H).set l (.cells c' t)) Hr' w' ∧ Stp wr Hr w Hr' w' := by
  cases hA with | cons hp hA =>
  obtain ⟨q, hq, rfl⟩ := rel_ptr hp
  have e0 := hA.plains ha
  subst e0
  obtain ⟨b, s, Cs, g1, g2⟩ := hB.get hl
  obtain ⟨p', e1, e2⟩ := nums_at hq
  rw [g1] at e1; cases e1
  subst e2
  have e4 := g2.vals hc
  subst e4
  have hph := hB.cph hl g1
  have hblk : Blk w b Cs.toArray t := (hO.1 l _ _ hl g1 hph).2 rfl
  refine (hu w b hblk).mono ?_
  rintro e w' ⟨rfl, hb', hg⟩
  have hnum : (⟨b, s, .cells C'.toArray t (0, 0)⟩ : RBlk).num = (⟨b, s, .cells Cs.toArray t (0, 0)⟩ : RBlk).num := by simp [RBlk.num, cntO, hlen]
  have hN : nums (Hr.set l ⟨b, s, .cells C'.toArray t (0, 0)⟩) = nums Hr := nums_set g1 hnum
  have hD := drop_all hN
  have hS : Stp wr Hr w (Hr.set l ⟨b, s, .cells C'.toArray t (0, 0)⟩) w' := stp_write g1 hph hwr hg hD.1 (by rw [hD.2]; simp)
  refine ⟨V, Hr.set l ⟨b, s, .cells C'.toArray t (0, 0)⟩, rfl, Rel.of_told hV, ?_, (apart_write (p' := ⟨b, s, .cells C'.toArray t (0, 0)⟩) hn hl rfl rfl g1 hph rfl).1, ⟨own_write hO.1 hn hB.len hl rfl rfl g1 hph rfl (fun k hk1 hk2 => hg.block k hk1 (fun e => hk2 (Option.some.inj e))) hg.size hb', hS.rd hO.2⟩, hS⟩
  rw [hN]
  exact (hB.dropI _).set (.cells (RelL.of_vals hc') (by rw [hnum]; exact hph))
end Go.Proofs.Ytcfomhnfhalmaaa
