/- Parts of a proof, merged: Kit Reg Sl RngB RegW ArrEq. No condition. -/
import Derived.Test.YtcfomhnfhalmaaaProg
import Derived.WalkKit
import Derived.ProofKit
import Derived.WalkSpells
import Derived.WalkLawsBesides
import Derived.Lib.Hide
import Derived.Handy
import Derived.Deep.RegionWith
import Derived.Deep.QuietTactic
import Derived.BigQuiet
import Derived.Deep.LoopGhost
import Derived.Deep.RegionHeld3
import Derived.Deep.DeepCutAuto
import Derived.StillTail
import Derived.Deep.Quiet
import Derived.RangeFuncNested
import Derived.RangeFuncBound
import Derived.RangeFuncLeaves
import Derived.LoopN
import Derived.OrdersIn
import Derived.Laws.StructEq
import Derived.Laws.Cover2
section
set_option linter.unusedVariables false
set_option linter.unusedSimpArgs false
namespace Go.Proofs.Ytcfomhnfhalmaaa
open Go.RowKit Go.ChangeShapes Go.WideShapes Go.ChangeAt

theorem setCell_drewN (w : World) (n : Nat) (a : Addr) (v : Value) : (w.drewN n).setCell a v = (w.setCell a v).drewN n := rfl
theorem kept {W w1 : World} (hb : Below W.heap.size W w1) {a : Addr} {v : Value} (h : W.cell? a = some v) : w1.cell? a = some v :=
  (hb.cell (World.block_lt_of_cell? W a h)).trans h
theorem newc (w : World) (c : Array Value) (t : TypeId) (i : Nat) {v : Value} (h : c[i]? = some v) : (w.alloc (.cells c t)).cell? ⟨w.heap.size, i, none⟩ = some v := by
  rw [World.cell?_alloc_at _ _ _ _ rfl]; exact h
theorem World.below_alloc (W : World) (o : Obj) : Below W.heap.size W (W.alloc o) := (Below.refl _ _).alloc (Nat.le_refl _) o
theorem far {W : World} {a b : Addr} {u v : Value} (h : W.cell? a = some v) (hne : a.block ≠ b.block) : (W.setCell b u).cell? a = some v := by
  rw [World.cell?_of_block (w := W) (Below.heap_setCell W b u a.block hne)]; exact h
/-- What is asked behind a call that has made memory, and changed nothing that was there. -/
theorem post_of_below {H : Type} {enc : TypeId × Value → H} {P : Program} {f : Func} {s : ChangeSpec} {apart fresh handsOn again : Bool} {W W' : World} {args : Array Value} {v : Value} {ds gs : List (DataW H)} {before pa pv : List MemPlace}
    (hW : DataW.Whole enc P f.params.toList s.vars apart W args.toList ds gs before)
    (hres : ∀ (b : Nat) (sp : Nat → Bool) (hd : Bool), DataW.TrodAll enc P W' b sp hd f.resultTypes.toList (v.resultList f.resultTypes.size) (s.fn H (ds ++ gs)).results [])
    (hargs : ∀ sp : Nat → Bool, (∀ p ∈ before, sp p.block = true) → DataW.TrodAll enc P W' 0 sp true f.params.toList args.toList (s.fn H (ds ++ gs)).args pa)
    (hvars : ∀ sp : Nat → Bool, (∀ p ∈ before, sp p.block = true) → DataW.TrodVars enc P W' sp s.vars (s.fn H (ds ++ gs)).vars pv)
    (hps : before = pa ++ pv) (hb : Below W.heap.size W W')
    (hok : ∀ (j : Nat) (t : TypeId) (r : Value), f.resultTypes[j]? = some t → (v.resultList f.resultTypes.size)[j]? = some r → Value.okWide P W' .any 0 t r) :
    s.post enc P f apart fresh handsOn again W args v W' := by
  have hold : ∀ p ∈ before, (fun b => decide (b < W.heap.size)) p.block = true := fun p hp => by simpa using hW.lt p hp
  have hlt := hW.lt
  refine ⟨ds, gs, before, [], pa, pv, hW, hres _ _ _, hargs _ hold, hvars _ hold, World.keptBut_mono (fun p hp => ⟨hp, ?_⟩) (hb.frame (· ∈ before)), fun _ => ?_⟩
  · rw [hps, List.mem_append] at hp
    exact Or.inr hp
  · obtain ⟨_, _, _, _, _, hz, hn⟩ := hW
    refine ⟨hok, _, _, ([] ++ pa) ++ pv, ⟨[] ++ pa, pv, trodAll_append (hargs _ (fun _ _ => rfl)) (hres _ _ _), hvars _ (fun _ _ => rfl), rfl, ?_, ?_⟩, ?_⟩
    · intro b off hp
      have hm : MemPlace.cell b off ∈ before := by rw [hps]; simpa using hp
      have := hb.frozen (p := ⟨b, off, none⟩) (hlt _ hm)
      rw [this]
      exact hz b off hm
    · intro ha
      have := hn ha
      rw [hps] at this
      simpa using this
    · intro p hp _
      rw [hps]
      simpa using hp
end Go.Proofs.Ytcfomhnfhalmaaa
end

section
set_option linter.unusedVariables false
set_option linter.unusedSimpArgs false
namespace Go.Proofs.Ytcfomhnfhalmaaa
open Go.RowKit

abbrev Block := Nat × Array Value × TypeId
section
variable {P : Program} {ops : Array Oper} {md : Region.Mode} {B : Nat} {W : World} {n : Nat} {kd : Nat → Nat} {St : List Block}

/-- Blocks whose cells are known and may be written. -/
def Blk (w : World) (b : Nat) (c : Array Value) (t : TypeId) : Prop := w.heap[b]? = some (.cells c t (0, 0))
def Own (H : List Block) (w : World) : Prop := ∀ p, p ∈ H → Blk w p.1 p.2.1 p.2.2

theorem Blk.lt {w : World} {b : Nat} {c : Array Value} {t : TypeId} (h : Blk w b c t) : b < w.heap.size := (Array.getElem?_eq_some_iff.1 h).1
theorem Blk.grow {w w' : World} {b : Nat} {c : Array Value} {t : TypeId} (h : Blk w b c t) (hb : Below w.heap.size w w') : Blk w' b c t := (hb.block b h.lt).trans h
theorem Blk.cell {w : World} {b : Nat} {c : Array Value} {t : TypeId} (h : Blk w b c t) (o : Nat) : w.cell? ⟨b, o, none⟩ = c[o]? := by
  unfold Blk at h; simp [World.cell?, h]
theorem Blk.free {w : World} {b : Nat} {c : Array Value} {t : TypeId} (h : Blk w b c t) (o : Nat) : w.frozen? ⟨b, o, none⟩ = false := by
  unfold Blk at h; simp [World.frozen?, h]
theorem Own.nil (w : World) : Own [] w := fun p hp => by cases hp
theorem Own.cons {w : World} {b : Nat} {c : Array Value} {t : TypeId} {H : List Block} (h : Blk w b c t) (hs : Own H w) : Own ((b, c, t) :: H) w := fun p hp => by
  cases hp with
  | head => exact h
  | tail _ hp => exact hs p hp
theorem Own.get {w : World} {H : List Block} (h : Own H w) {b : Nat} {c : Array Value} {t : TypeId} (k : Nat) (hk : H[k]? = some (b, c, t)) : Blk w b c t := h (b, c, t) (List.mem_of_getElem? hk)
theorem Own.cell {w : World} {H : List Block} (h : Own H w) (k : Nat) {b : Nat} {c : Array Value} {t : TypeId} (hk : H[k]? = some (b, c, t)) : ∀ o, w.cell? ⟨b, o, none⟩ = c[o]? := (h.get k hk).cell
theorem Own.free {w : World} {H : List Block} (h : Own H w) (k : Nat) {b : Nat} {c : Array Value} {t : TypeId} (hk : H[k]? = some (b, c, t)) : ∀ o, w.frozen? ⟨b, o, none⟩ = false := (h.get k hk).free
theorem Own.lt {w : World} {H : List Block} (h : Own H w) (k : Nat) {b : Nat} {c : Array Value} {t : TypeId} (hk : H[k]? = some (b, c, t)) : b < w.heap.size := (h.get k hk).lt
theorem Own.grow {w w' : World} {H : List Block} (h : Own H w) (hb : Below w.heap.size w w') : Own H w' := fun p hp => (h p hp).grow hb
theorem Own.drew {w : World} {H : List Block} (h : Own H w) : Own H w.drew := h
theorem Own.alloc {w : World} {H : List Block} (h : Own H w) {c : Array Value} {t : TypeId} : Own ((w.heap.size, c, t) :: H) (w.alloc (.cells c t)) :=
  Own.cons (by show (w.heap.push _)[w.heap.size]? = _; simp) (h.grow (World.below_alloc _ _))
theorem Own.new {w : World} {H : List Block} (h : Own H w) (b : Nat) (hb : w.heap.size = b) {c : Array Value} {t : TypeId} : Own ((b, c, t) :: H) (w.alloc (.cells c t)) := by
  subst hb; exact h.alloc
theorem Own.grow' {w w' : World} {H : List Block} (hb : Below w.heap.size w w') (h : Own H w) : Own H w' := h.grow hb
/-- What is known: these blocks lie there. -/
def Holds (S : Block → Prop) (w : World) : Prop := ∀ p, S p → Blk w p.1 p.2.1 p.2.2
theorem Holds.grow {S : Block → Prop} {w w' : World} (h : Holds S w) (hb : Below w.heap.size w w') : Holds S w' := fun p hp => (h p hp).grow hb

/-- The worlds that the region may stand in: nothing below B has turned since it began, and the blocks of S are known. -/
def Cls (B : Nat) (W : World) (S : Block → Prop) (w : World) : Prop := Below B W w ∧ Holds S w
theorem Cls.grow {S : Block → Prop} {w w' : World} (hBW : B ≤ W.heap.size) (h : Cls B W S w) (hb : Below w.heap.size w w') : Cls B W S w' :=
  ⟨h.1.trans (hb.mono (Nat.le_trans hBW h.1.size)), h.2.grow hb⟩

def noExit : Exit → Act → World → Prop := fun _ _ _ => False
/-- The operation hands back a value, and R is known of it. -/
def atR (P : Program) (o : Oper) (a : Act) (w : World) (R : Value → World → Prop) : Prop := o.wp P a w (fun a' w' => ∃ v, a' = a.put o.dst v ∧ R v w') noExit

theorem put_same {a b : Act} {d : Option Tmp} {x u : Value} (hs : a.tmps.size = b.tmps.size) (h : b.put d x = b.put d u) : a.put d x = a.put d u := by
  cases d with
  | none => rfl
  | some d =>
    by_cases hd : d < a.tmps.size
    · have h1 : (b.put (some d) x).tmps[d]? = (b.put (some d) u).tmps[d]? := by rw [h]
      simp only [Act.put] at h1
      have hd' : d < b.tmps.size := hs ▸ hd
      simp [hd'] at h1
      rw [h1]
    · simp only [Act.put]
      simp only [Array.setIfInBounds, dif_neg hd]

/-- What an operation comes to, said of its value. -/
def uponV (P : Program) (R : Value → World → Prop) : Result Next → Prop
  | .ok (.value u) w' => R u w'
  | .ok .skip w' => R undef w'
  | .ok (.enter f args) w' => Calls P f args w' (fun e w'' => ∃ v, e = .returned v ∧ R v w'')
  | .ok (.row row args) w' => Rows P row args w' R
  | _ => False

theorem uponV_of_wp {o : Oper} {a : Act} {w : World} {R : Act → World → Prop} (hd : ∀ a' w', R a' w' → a'.defers = a.defers) (h : o.wp P a w R noExit) :
    uponV P (fun v w' => R (a.put o.dst v) w') ((execOp a.eval o).run P w) := by
  unfold Oper.wp at h
  generalize (execOp a.eval o).run P w = r at *
  cases r with
  | ok x w' =>
    cases x <;> simp only [Oper.upon] at h <;> simp only [uponV]
    case value u => exact h
    case skip => exact h
    case defer d =>
      have := hd _ _ h
      cases hdst : o.dst <;> simp [hdst, Act.put] at this
    case enter f args =>
      exact h.mono fun e w'' he => by
        cases e with
        | returned v => exact ⟨v, rfl, he⟩
        | panicked c => exact he.elim
        | outgrown => obtain ⟨_, _, hf⟩ := he; exact hf.elim
    case row row args => exact h
  | halt x w' => cases x <;> simp only [Oper.upon, noExit] at h

theorem wp_of_uponV {o : Oper} {a : Act} {w : World} {R : Value → World → Prop} {K : Act → World → Prop} {Q' : Exit → Act → World → Prop} (h : uponV P R ((execOp a.eval o).run P w)) (hk : ∀ v w', R v w' → K (a.put o.dst v) w') : o.wp P a w K Q' := by
  unfold Oper.wp
  generalize (execOp a.eval o).run P w = r at *
  cases r with
  | ok x w' =>
    cases x <;> simp only [uponV] at h <;> simp only [Oper.upon]
    case value u => exact hk _ _ h
    case skip => exact hk _ _ h
    case enter f args => exact h.mono fun e w'' ⟨v, he, hr⟩ => by subst he; exact hk _ _ hr
    case row row args => exact h.mono fun v w'' hr => hk _ _ hr
  | halt x w' => simp only [uponV] at h

theorem atR_val {o : Oper} {a : Act} {w : World} {R : Value → World → Prop} (h : atR P o a w R) : uponV P (fun u w' => ∃ v, a.put o.dst u = a.put o.dst v ∧ R v w') ((execOp a.eval o).run P w) :=
  uponV_of_wp (R := fun a' w' => ∃ v, a' = a.put o.dst v ∧ R v w') (fun a' w' h => by obtain ⟨v, h, _⟩ := h; rw [h]; cases o.dst <;> rfl) h
theorem atR_same {o : Oper} {a a' : Act} {w : World} {R : Value → World → Prop} (hz : a'.tmps.size = a.tmps.size) (he : execOp a'.eval o = execOp a.eval o) (h : atR P o a w R) : atR P o a' w R := by
  have h1 := atR_val h
  rw [← he] at h1
  exact wp_of_uponV h1 fun x w' ⟨y, hx, hr⟩ => ⟨y, put_same (b := a) hz hx, hr⟩
theorem put_size (a : Act) (d : Option Tmp) (v : Value) : (a.put d v).tmps.size = a.tmps.size := by cases d <;> simp [Act.put]
theorem atR_mono {o : Oper} {a : Act} {w : World} {R R' : Value → World → Prop} (h : atR P o a w R) (hr : ∀ v w', R v w' → R' v w') : atR P o a w R' :=
  Oper.wp_mono (fun _ _ ⟨v, h1, h2⟩ => ⟨v, h1, hr v _ h2⟩) h
theorem wp_of_atR {o : Oper} {a : Act} {w : World} {R : Value → World → Prop} {K : Act → World → Prop} {Q' : Exit → Act → World → Prop} (h : atR P o a w R) (hk : ∀ v w', R v w' → K (a.put o.dst v) w') : o.wp P a w K Q' :=
  wp_of_uponV (atR_val h) fun u w' ⟨v, hu, hr⟩ => by rw [hu]; exact hk v w' hr

/-- One value; memory may be made. -/
def at1 (P : Program) (o : Oper) (a : Act) (w : World) (v : Value) : Prop := atR P o a w fun u w' => u = v ∧ Below w.heap.size w w'
/-- A value, and blocks of its own. -/
def at2 (P : Program) (o : Oper) (a : Act) (w : World) (N : Value → List Block → Prop) : Prop := atR P o a w fun v w' => ∃ T, N v T ∧ Below w.heap.size w w' ∧ Own T w' ∧ ∀ p, p ∈ T → w.heap.size ≤ p.1

abbrev Post := Act → (Block → Prop) → Prop
def more (T : List Block) (S : Block → Prop) : Block → Prop := fun p => p ∈ T ∨ S p

/-- What is asked of an operation, by its kind: 1: it makes something; 3: it writes; else: it yields one value. -/
def Alt (P : Program) (B : Nat) (W : World) (St : List Block) (o : Oper) (K : Post) (a : Act) (S : Block → Prop) : Nat → Prop
  | 1 => ∃ N : Value → List Block → Prop, (∀ w, Cls B W S w → at2 P o a w N) ∧ ∀ v T, N v T → (∀ p, p ∈ T → W.heap.size ≤ p.1) → (∀ p q, p ∈ T → S q → p.1 ≠ q.1) → K (a.put o.dst v) (more T S)
  | 3 => ∃ S' : Block → Prop, (∀ p, p ∈ St → S' p) ∧ (∀ w, Cls B W S w → atR P o a w fun u w' => u = undef ∧ Cls B W S' w') ∧ K (a.put o.dst undef) S'
  | _ => ∃ v, (∀ w, Cls B W S w → at1 P o a w v) ∧ K (a.put o.dst v) S

/-- Operation i comes up. -/
def gOp (P : Program) (ops : Array Oper) (B : Nat) (W : World) (St : List Block) (kd : Nat → Nat) (i : Nat) (K : Post) (a : Act) (S : Block → Prop) : Prop :=
  match ops[i]? with
  | none => K a S
  | some o => if Region.wanted o (yielded ops a.tmps) then Alt P B W St o K a S (kd i) else K (a.put o.dst undef) S

theorem Alt.mono {o : Oper} {K K' : Post} {a : Act} {S : Block → Prop} (hS : ∀ p, p ∈ St → S p) (h : ∀ a S, (∀ p, p ∈ St → S p) → K a S → K' a S) : ∀ {k : Nat}, Alt P B W St o K a S k → Alt P B W St o K' a S k := by
  intro k hh
  unfold Alt at *
  split
  · obtain ⟨N, h1, h2⟩ := hh; exact ⟨N, h1, fun v T a b c => h _ _ (fun p hp => .inr (hS p hp)) (h2 v T a b c)⟩
  · obtain ⟨S', h0, h1, h2⟩ := hh; exact ⟨S', h0, h1, h _ _ h0 h2⟩
  · rename_i hn1 hn3
    split at hh
    · exact absurd rfl hn1
    · exact absurd rfl hn3
    · obtain ⟨v, h1, h2⟩ := hh; exact ⟨v, h1, h _ _ hS h2⟩

theorem wp_of_gOp (hBW : B ≤ W.heap.size) {i : Nat} {K : Post} {K' : Act → World → Prop} {Q' : Exit → Act → World → Prop} {a : Act} {S : Block → Prop} {w : World} (hC : Cls B W S w)
    (h : ∀ a S w, Cls B W S w → K a S → K' a w) (hh : gOp P ops B W St kd i K a S) : wpOp P ops Q' i K' a w := by
  unfold gOp at hh
  unfold wpOp
  split
  · rename_i ho; simp only [ho] at hh; exact h _ _ _ hC hh
  · rename_i o ho
    simp only [ho] at hh
    split
    · rename_i hw
      simp only [hw, if_true] at hh
      refine .inl ?_
      unfold Alt at hh
      split at hh
      · obtain ⟨N, h1, h2⟩ := hh
        exact wp_of_atR (h1 w hC) fun v w' ⟨T, hN, hb, hT, hz⟩ => by
          have hc := hC.grow hBW hb
          refine h _ _ _ ⟨hc.1, fun p hp => hp.elim (hT p) (hc.2 p)⟩ (h2 v T hN (fun p hp => Nat.le_trans hC.1.size (hz p hp)) fun p q hp hq => ?_)
          have := hz p hp
          have := (hC.2 q hq).lt
          omega
      · obtain ⟨S', _, h1, h2⟩ := hh
        exact wp_of_atR (h1 w hC) fun v w' ⟨hv, hc⟩ => by subst hv; exact h _ _ _ hc h2
      · obtain ⟨v, h1, h2⟩ := hh
        exact wp_of_atR (h1 w hC) fun u w' ⟨hu, hb⟩ => by subst hu; exact h _ _ _ (hC.grow hBW hb) h2
    · rename_i hw; simp only [hw] at hh; exact h _ _ _ hC hh

theorem gOp_mono {i : Nat} {K K' : Post} {a : Act} {S : Block → Prop} (hS : ∀ p, p ∈ St → S p) (h : ∀ a S, (∀ p, p ∈ St → S p) → K a S → K' a S) (hh : gOp P ops B W St kd i K a S) : gOp P ops B W St kd i K' a S := by
  unfold gOp at *
  split
  · exact h _ _ hS (by simpa [*] using hh)
  · rename_i o ho
    simp only [ho] at hh
    split
    · rename_i hw; simp only [hw, if_true] at hh; exact hh.mono hS h
    · rename_i hw; simp only [hw] at hh; exact h _ _ hS hh

/-- Whatever order is picked from here on, till the head has come up. -/
def wpAnyG (P : Program) (md : Region.Mode) (ops : Array Oper) (B : Nat) (W : World) (St : List Block) (kd : Nat → Nat) (n : Nat) (L : Array Bool → Post) : Nat → Array Bool → Post
  | 0, listed, a, S => L listed a S
  | f + 1, listed, a, S =>
    Region.ready md ops listed ≠ [] ∧ ∀ i ∈ Region.ready md ops listed, i < n ∧ gOp P ops B W St kd i (wpAnyG P md ops B W St kd n L f (listed.setIfInBounds i true)) a S

theorem wpAny_of_G (hBW : B ≤ W.heap.size) {g : Nat} {L : Array Bool → Post} {Q' : Exit → Act → World → Prop} (hL : ∀ listed a S w, Cls B W S w → L listed a S → wpAny P md ops Q' g listed a w) :
    ∀ (f : Nat) (listed : Array Bool) (a : Act) (S : Block → Prop) (w : World), Cls B W S w → wpAnyG P md ops B W St kd n L f listed a S → wpAny P md ops Q' (f + g) listed a w
  | 0, listed, a, S, w, hC, h => by rw [Nat.zero_add]; exact hL _ _ _ _ hC h
  | f + 1, listed, a, S, w, hC, h => by
    rw [show f + 1 + g = (f + g) + 1 by omega]
    exact ⟨fun h0 => absurd h0 h.1, fun i hi => wp_of_gOp hBW hC (fun a' S' w' hC' h' => wpAny_of_G hBW hL f _ a' S' w' hC' h') (h.2 i hi).2⟩

/-- In state a operation o yields v, whatever the world of the class (pr: whatever the world). -/
def Yld (P : Program) (ops : Array Oper) (B : Nat) (W : World) (St : List Block) (pr : Bool) (o : Oper) (v : Value) (a : Act) (S : Block → Prop) : Prop :=
  (Region.wanted o (yielded ops a.tmps) = true ∧ ∀ w, (pr = true ∧ Cls B W (· ∈ St) w ∨ pr = false ∧ Cls B W S w) → at1 P o a w v) ∨
  (Region.wanted o (yielded ops a.tmps) = false ∧ v = undef)

theorem Yld.op {pr : Bool} {i : Nat} {o : Oper} {v : Value} {a : Act} {S : Block → Prop} (hS : ∀ p, p ∈ St → S p) (hk : kd i ≠ 1 ∧ kd i ≠ 3) (hi : ops[i]? = some o) (hy : Yld P ops B W St pr o v a S) {K : Post} (h : K (a.put o.dst v) S) : gOp P ops B W St kd i K a S := by
  unfold gOp
  simp only [hi]
  rcases hy with ⟨hw, hv⟩ | ⟨hw, rfl⟩
  · simp only [hw, if_true]
    unfold Alt
    split
    · rename_i e; exact absurd e hk.1
    · rename_i e; exact absurd e hk.2
    · refine ⟨v, fun w hc => hv w ?_, h⟩
      cases pr with
      | true => exact .inl ⟨rfl, hc.1, fun p hp => hc.2 p (hS p hp)⟩
      | false => exact .inr ⟨rfl, hc⟩
  · simp only [hw, Bool.false_eq_true, if_false]; exact h

theorem Yld.same {pr : Bool} {o : Oper} {v : Value} {a a' : Act} {S : Block → Prop} (hy : Yld P ops B W St pr o v a S) (he : execOp a'.eval o = execOp a.eval o)
    (hw : Region.wanted o (yielded ops a'.tmps) = Region.wanted o (yielded ops a.tmps)) (hz : a'.tmps.size = a.tmps.size) : Yld P ops B W St pr o v a' S := by
  unfold Yld at *
  rw [hw]
  exact hy.imp (fun ⟨h1, h2⟩ => ⟨h1, fun w hc => atR_same hz he (h2 w hc)⟩) id
theorem Yld.less {pr : Bool} {o : Oper} {v : Value} {a : Act} {S S' : Block → Prop} (hy : Yld P ops B W St pr o v a S) (h : pr = true ∨ ∀ p, S p → S' p) : Yld P ops B W St pr o v a S' :=
  hy.imp (fun ⟨h1, h2⟩ => ⟨h1, fun w hw => h2 w (by
    rcases hw with hw | ⟨e, hw⟩
    · exact .inl hw
    · rcases h with h | h
      · rw [e] at h; cases h
      · exact .inr ⟨e, hw.1, fun p hp => hw.2 p (h p hp)⟩)⟩) id

theorem gOp_put {pr : Bool} {j : Nat} {oi oj : Oper} {v : Value} {S : Block → Prop} (hj : ops[j]? = some oj) (hap : oi.apart ops oj = true) (hp : pr = true ∨ kd j ≠ 3)
    (hsi : ∀ cs b, oi.op ≠ .select cs b) (hsj : ∀ cs b, oj.op ≠ .select cs b) {K : Post} {a : Act}
    (hy : Yld P ops B W St pr oi v a S) (h : gOp P ops B W St kd j K (a.put oi.dst v) S) :
    gOp P ops B W St kd j (fun a' S' => Yld P ops B W St pr oi v a' S' ∧ K (a'.put oi.dst v) S') a S := by
  obtain ⟨h1, h2, h3⟩ := Oper.apart_spec hap
  have keep : ∀ u, Yld P ops B W St pr oi v (a.put oj.dst u) S := fun u => hy.same (execOp_put oi hsi a oj.dst u h3) (wanted_put oi a oj.dst u h3) (put_size _ _ _)
  have back : ∀ {w : World} {R : Value → World → Prop}, atR P oj (a.put oi.dst v) w R → atR P oj a w R := fun h => atR_same (put_size _ _ _).symm (execOp_put oj hsj a oi.dst v h1).symm h
  unfold gOp at *
  simp only [hj] at *
  rw [wanted_put oj a oi.dst v h1] at h
  split
  · rename_i hw
    simp only [hw, if_true] at h
    unfold Alt at *
    split
    · rename_i e
      simp only [e] at h
      obtain ⟨N, hu, hn⟩ := h
      exact ⟨N, fun w hc => back (hu w hc), fun u T x y z => ⟨(keep u).less (.inr fun p hp => .inr hp), by rw [← Act.put_comm a v u h2]; exact hn u T x y z⟩⟩
    · rename_i e
      simp only [e] at h
      obtain ⟨S', h0, hu, hn⟩ := h
      exact ⟨S', h0, fun w hc => back (hu w hc), (keep undef).less (.inl (hp.resolve_right (by simp [e]))), by rw [← Act.put_comm a v undef h2]; exact hn⟩
    · rename_i e1 e3
      split at h
      · rename_i e; exact absurd e e1
      · rename_i e; exact absurd e e3
      · obtain ⟨u, hu, hn⟩ := h
        exact ⟨u, fun w hc => back (hu w hc), keep u, by rw [← Act.put_comm a v u h2]; exact hn⟩
  · rename_i hw
    simp only [hw] at h
    exact ⟨keep _, by rw [← Act.put_comm a v undef h2]; exact h⟩

/-- j cannot come up ahead of i. -/
inductive Upto (md : Region.Mode) (ops : Array Oper) : Nat → Nat → Prop
  | one {j i : Nat} (h : Region.waitsFor md ops j i = true) : Upto md ops j i
  | more {j k i : Nat} (h : Region.waitsFor md ops j k = true) (hk : Upto md ops k i) : Upto md ops j i
theorem Upto.snoc {md : Region.Mode} {ops : Array Oper} {j k i : Nat} (h : Upto md ops j k) (hk : Region.waitsFor md ops k i = true) : Upto md ops j i := by
  induction h with
  | one h => exact .more h (.one hk)
  | more h _ ih => exact .more h (ih hk)
theorem Upto.listed {md : Region.Mode} {ops : Array Oper} {n : Nat} {listed : Array Bool} (inv : HeadInv md ops n listed) {j i : Nat} (h : Upto md ops j i) (hj : ∀ oj, ops[j]? = some oj → ∀ e ∈ oj.after, Region.binds md e = true → listed.getD e.on false = true) : listed.getD i false = true := by
  induction h with
  | one h =>
    obtain ⟨oj, hoj, e, he, hb, hon⟩ := Region.waitsFor_spec h
    rw [← hon]; exact hj oj hoj e he hb
  | @more j k i h _ ih =>
    obtain ⟨oj, hoj, e, he, hb, hon⟩ := Region.waitsFor_spec h
    have hk : listed.getD k false = true := by rw [← hon]; exact hj oj hoj e he hb
    exact ih fun ok hok e he hb => inv.closed k ok hok hk e he hb
/-- The tail waits for the head. -/
def TailW (md : Region.Mode) (ops : Array Oper) (n : Nat) : Prop := ∀ listed, HeadInv md ops n listed → ∀ i, i < n → listed.getD i true = false → ∀ t, t ∈ Region.ready md ops listed → t < n

theorem wpAnyG_first {pr : Bool} {i : Nat} {oi : Oper} {v : Value} {L : Array Bool → Post} (hi : ops[i]? = some oi) (hk : kd i ≠ 1 ∧ kd i ≠ 3) (hsel : ∀ (j : Nat) (o : Oper) cs b, ops[j]? = some o → o.op ≠ .select cs b)
    (hT : TailW md ops n) (hin : i < n) (hdone : ∀ listed a S, L listed a S → ∀ j ∈ Region.ready md ops listed, n ≤ j) :
    ∀ (f : Nat) (listed : Array Bool) (a : Act) (S : Block → Prop), (∀ p, p ∈ St → S p) → HeadInv md ops n listed →
      (∀ j oj, ops[j]? = some oj → j ≠ i → listed.getD j true = false → (∀ e ∈ oj.after, Region.binds md e = true → e.on ≠ i) → oi.apart ops oj = true) →
      (pr = true ∨ ∀ j, kd j = 3 → listed.getD j true = false → Upto md ops j i) →
      i ∈ Region.ready md ops listed → Yld P ops B W St pr oi v a S →
      wpAnyG P md ops B W St kd n L f (listed.setIfInBounds i true) (a.put oi.dst v) S → wpAnyG P md ops B W St kd n L (f + 1) listed a S := by
  intro f
  induction f with
  | zero =>
    intro listed a S hS inv _ _ hr hy H
    have hun := (mem_ready.1 hr).1
    refine ⟨fun h => (by rw [h] at hr; cases hr), fun j hj => ?_⟩
    refine ⟨hT _ inv i hin hun j hj, ?_⟩
    by_cases hji : j = i
    · subst hji; exact hy.op hS hk hi H
    · have := hdone _ _ _ H j (ready_mono hj hji)
      have := hT _ inv i hin hun j hj
      omega
  | succ f ih =>
    intro listed a S hS inv hfree hchg hr hy H
    have hun := (mem_ready.1 hr).1
    refine ⟨fun h => (by rw [h] at hr; cases hr), fun j hj => ?_⟩
    have hjn := hT _ inv i hin hun j hj
    refine ⟨hjn, ?_⟩
    by_cases hji : j = i
    · subst hji; exact hy.op hS hk hi H
    · have h1 := (H.2 j (ready_mono hj hji)).2
      obtain ⟨hjun, oj, hoj, hall⟩ := mem_ready.1 hj
      have hnot : ∀ e ∈ oj.after, Region.binds md e = true → e.on ≠ i := fun e he hb heq => by
        have h1 := hall e he hb
        rw [heq, getD_both hun] at h1
        cases h1
      have hp : pr = true ∨ kd j ≠ 3 := by
        rcases hchg with h | h
        · exact .inl h
        · refine .inr fun e => ?_
          have hli := (h j e hjun).listed inv fun oj' hoj' e' he' hb' => by
            have : oj' = oj := Option.some.inj (hoj'.symm.trans hoj)
            subst this
            exact hall e' he' hb'
          rw [getD_both hun] at hli
          cases hli
      have h2 := gOp_put hoj (hfree j oj hoj hji hjun hnot) hp (fun cs b => hsel i oi cs b hi) (fun cs b => hsel j oj cs b hoj) hy h1
      have unl : ∀ {k : Nat}, (listed.setIfInBounds j true).getD k true = false → listed.getD k true = false := fun {k} hun => by
        by_cases hjk : j = k
        · subst hjk; exact hjun
        · rw [getD_set_ne true hjk] at hun; exact hun
      refine gOp_mono hS (fun a' S' hS' h3 => ih (listed.setIfInBounds j true) a' S' hS' (inv.set hj hjn) (fun k ok hk hki hun hno => hfree k ok hk hki (unl hun) hno) (hchg.imp id fun h k hk hun => h k hk (unl hun)) (ready_mono hr (Ne.symm hji)) h3.1 ?_) h2
      rw [Array.setIfInBounds_comm _ _ hji]
      exact h3.2

/-- The moves: an operation that yields one value; one that does so in whatever world; one that makes something; one that writes; two that make a block each. -/
inductive Mv where
  | q (i : Nat) | p (i : Nat) | g (i : Nat) | c (i : Nat) | gg (i j : Nat)

def atA (P : Program) (o : Oper) (a : Act) (w : World) (mk : Nat → Value) (c : Array Value) (t : TypeId) : Prop := atR P o a w fun v w' => v = mk w.heap.size ∧ w' = w.alloc (.cells c t)
theorem at2_of_A {o : Oper} {a : Act} {w : World} {mk : Nat → Value} {c : Array Value} {t : TypeId} (h : atA P o a w mk c t) : at2 P o a w fun v T => ∃ b, v = mk b ∧ T = [(b, c, t)] :=
  atR_mono h fun v w' ⟨hv, hw⟩ => ⟨_, ⟨_, hv, rfl⟩, by rw [hw]; exact World.below_alloc _ _, by rw [hw]; exact Own.cons (by show (w.heap.push _)[w.heap.size]? = _; simp) (Own.nil _), fun p hp => by simp at hp; subst hp; exact Nat.le_refl _⟩

/-- THE WALK. -/
def wpG (P : Program) (ops : Array Oper) (B : Nat) (W : World) (St : List Block) (L : Post) : List Mv → Post
  | [], a, S => L a S
  | .q i :: r, a, S => ∃ o, ops[i]? = some o ∧ ∃ v, Yld P ops B W St false o v a S ∧ wpG P ops B W St L r (a.put o.dst v) S
  | .p i :: r, a, S => ∃ o, ops[i]? = some o ∧ ∃ v, Yld P ops B W St true o v a S ∧ wpG P ops B W St L r (a.put o.dst v) S
  | .g i :: r, a, S => ∃ o, ops[i]? = some o ∧ Region.wanted o (yielded ops a.tmps) = true ∧ Alt P B W St o (wpG P ops B W St L r) a S 1
  | .c i :: r, a, S => ∃ o, ops[i]? = some o ∧ Region.wanted o (yielded ops a.tmps) = true ∧ Alt P B W St o (wpG P ops B W St L r) a S 3
  | .gg i j :: r, a, S => ∃ o1 o2, ops[i]? = some o1 ∧ ops[j]? = some o2 ∧ Region.wanted o1 (yielded ops a.tmps) = true ∧ Region.wanted o2 (yielded ops a.tmps) = true ∧
      ∃ mk1 c1 t1 mk2 c2 t2, (∀ w, Cls B W S w → atA P o1 a w mk1 c1 t1) ∧ (∀ w, Cls B W S w → atA P o2 a w mk2 c2 t2) ∧
        ∀ b1 b2, W.heap.size ≤ b1 → W.heap.size ≤ b2 → b1 ≠ b2 → (∀ q, S q → b1 ≠ q.1) → (∀ q, S q → b2 ≠ q.1) → wpG P ops B W St L r ((a.put o1.dst (mk1 b1)).put o2.dst (mk2 b2)) (more [(b2, c2, t2), (b1, c1, t1)] S)

/-- The order of the walk serves. -/
def Order (md : Region.Mode) (ops : Array Oper) (n g : Nat) (kd : Nat → Nat) : List Mv → Array Bool → Prop
  | [], listed => Region.seqB md ops g n listed = true
  | .q i :: r, listed => i < n ∧ (kd i ≠ 1 ∧ kd i ≠ 3) ∧ i ∈ Region.ready md ops listed ∧ (∀ oi, ops[i]? = some oi → ∀ j oj, ops[j]? = some oj → j ≠ i → listed.getD j true = false → (∀ e ∈ oj.after, Region.binds md e = true → e.on ≠ i) → oi.apart ops oj = true) ∧
      (∀ j, kd j = 3 → listed.getD j true = false → Upto md ops j i) ∧ Order md ops n g kd r (listed.setIfInBounds i true)
  | .p i :: r, listed => i < n ∧ (kd i ≠ 1 ∧ kd i ≠ 3) ∧ i ∈ Region.ready md ops listed ∧ (∀ oi, ops[i]? = some oi → ∀ j oj, ops[j]? = some oj → j ≠ i → listed.getD j true = false → (∀ e ∈ oj.after, Region.binds md e = true → e.on ≠ i) → oi.apart ops oj = true) ∧
      Order md ops n g kd r (listed.setIfInBounds i true)
  | .g i :: r, listed => i < n ∧ kd i = 1 ∧ i ∈ Region.ready md ops listed ∧ (∀ j, j ∈ Region.ready md ops listed → j = i) ∧ Order md ops n g kd r (listed.setIfInBounds i true)
  | .c i :: r, listed => i < n ∧ kd i = 3 ∧ i ∈ Region.ready md ops listed ∧ (∀ j, j ∈ Region.ready md ops listed → j = i) ∧ Order md ops n g kd r (listed.setIfInBounds i true)
  | .gg i j :: r, listed => i < n ∧ j < n ∧ kd i = 1 ∧ kd j = 1 ∧ i ≠ j ∧ i ∈ Region.ready md ops listed ∧ j ∈ Region.ready md ops listed ∧ (∀ k, k ∈ Region.ready md ops listed → k = i ∨ k = j) ∧
      (∀ k, k ∈ Region.ready md ops (listed.setIfInBounds i true) → k = j) ∧ (∀ k, k ∈ Region.ready md ops (listed.setIfInBounds j true) → k = i) ∧
      (∀ x y, ops[i]? = some x → ops[j]? = some y → x.apart ops y = true) ∧ Order md ops n g kd r ((listed.setIfInBounds i true).setIfInBounds j true)

def Mv.count : Mv → Nat
  | .gg _ _ => 2
  | _ => 1
def counts : List Mv → Nat
  | [] => 0
  | m :: r => counts r + m.count

theorem one_ready {L : Array Bool → Post} {f i k : Nat} {o : Oper} {listed : Array Bool} {a : Act} {S : Block → Prop} (hr : i ∈ Region.ready md ops listed) (hr' : ∀ j, j ∈ Region.ready md ops listed → j = i) (hin : i < n) (ho : ops[i]? = some o) (hw : Region.wanted o (yielded ops a.tmps) = true) (hk : kd i = k)
    (h : Alt P B W St o (wpAnyG P md ops B W St kd n L f (listed.setIfInBounds i true)) a S k) : wpAnyG P md ops B W St kd n L (f + 1) listed a S := by
  refine ⟨fun e => (by rw [e] at hr; cases hr), fun j hj => ?_⟩
  obtain rfl := hr' j hj
  refine ⟨hin, ?_⟩
  unfold gOp
  simp only [ho, hw, if_true, hk]
  exact h

theorem at_list0 {l : List Oper} {i : Nat} {o : Oper} (h : l[i]? = some o) : l.toArray[i]? = some o := by simpa using h
theorem more_more (T T' : List Block) (S : Block → Prop) : more T (more T' S) = more (T ++ T') S := by
  funext p; simp [more, or_assoc]
theorem more_swap (x y : Block) (S : Block → Prop) : more [x] (more [y] S) = more [y, x] S := by
  funext p; simp only [more, List.mem_cons, List.not_mem_nil, or_false]; exact propext ⟨fun h => by rcases h with h | h | h <;> simp [h], fun h => by rcases h with (h | h) | h <;> simp [h]⟩
theorem more_two (x y : Block) (S : Block → Prop) : more [x] (more [y] S) = more [x, y] S := more_more _ _ _

theorem wpAnyG_of_walk {L : Post} {g : Nat} (hsel : Region.noSelect ops = true) (hT : TailW md ops n) :
    ∀ (l : List Mv) (listed : Array Bool) (a : Act) (S : Block → Prop), (∀ p, p ∈ St → S p) → HeadInv md ops n listed → Order md ops n g kd l listed → wpG P ops B W St L l a S →
    wpAnyG P md ops B W St kd n (fun listed' a' S' => Region.seqB md ops g n listed' = true ∧ L a' S') (counts l) listed a S
  | [], listed, a, S, hS, inv, hB, h => ⟨hB, h⟩
  | .q i :: l, listed, a, S, hS, inv, hB, h => by
    obtain ⟨o, ho, v, hy, hK⟩ := h
    obtain ⟨hin, hk, hr, hf, hc, hB'⟩ := hB
    exact wpAnyG_first ho hk (Region.noSelect_spec hsel) hT hin (fun listed' a' S' hL => seqB_ready hL.1) (counts l) listed a S hS inv (hf o ho) (.inr hc) hr hy
      (wpAnyG_of_walk hsel hT l _ _ S hS (inv.set hr hin) hB' hK)
  | .p i :: l, listed, a, S, hS, inv, hB, h => by
    obtain ⟨o, ho, v, hy, hK⟩ := h
    obtain ⟨hin, hk, hr, hf, hB'⟩ := hB
    exact wpAnyG_first ho hk (Region.noSelect_spec hsel) hT hin (fun listed' a' S' hL => seqB_ready hL.1) (counts l) listed a S hS inv (hf o ho) (.inl rfl) hr hy
      (wpAnyG_of_walk hsel hT l _ _ S hS (inv.set hr hin) hB' hK)
  | .g i :: l, listed, a, S, hS, inv, hB, h => by
    obtain ⟨o, ho, hw, h1⟩ := h
    obtain ⟨hin, hk, hr, hr', hB'⟩ := hB
    exact one_ready hr hr' hin ho hw hk (h1.mono hS fun a' S' hS' h' => wpAnyG_of_walk hsel hT l _ a' S' hS' (inv.set hr hin) hB' h')
  | .c i :: l, listed, a, S, hS, inv, hB, h => by
    obtain ⟨o, ho, hw, h1⟩ := h
    obtain ⟨hin, hk, hr, hr', hB'⟩ := hB
    exact one_ready hr hr' hin ho hw hk (h1.mono hS fun a' S' hS' h' => wpAnyG_of_walk hsel hT l _ a' S' hS' (inv.set hr hin) hB' h')
  | .gg i j :: l, listed, a, S, hS, inv, hB, h => by
    obtain ⟨o1, o2, ho1, ho2, hw1, hw2, mk1, c1, t1, mk2, c2, t2, h1, h2, hK⟩ := h
    obtain ⟨hin, hjn, hki, hkj, hij, hi', hj', hr, hri, hrj, hap, hB'⟩ := hB
    obtain ⟨p1, p2, p3⟩ := Oper.apart_spec (hap o1 o2 ho1 ho2)
    have hji : j ∈ Region.ready md ops (listed.setIfInBounds i true) := ready_mono hj' (Ne.symm hij)
    have hij' : i ∈ Region.ready md ops (listed.setIfInBounds j true) := ready_mono hi' hij
    have s1 : ∀ cs b, o1.op ≠ .select cs b := fun cs b => Region.noSelect_spec hsel i o1 cs b ho1
    have s2 : ∀ cs b, o2.op ≠ .select cs b := fun cs b => Region.noSelect_spec hsel j o2 cs b ho2
    have fin : ∀ b1 b2, W.heap.size ≤ b1 → W.heap.size ≤ b2 → b1 ≠ b2 → (∀ q, S q → b1 ≠ q.1) → (∀ q, S q → b2 ≠ q.1) →
        wpAnyG P md ops B W St kd n (fun listed' a' S' => Region.seqB md ops g n listed' = true ∧ L a' S') (counts l) ((listed.setIfInBounds i true).setIfInBounds j true) ((a.put o1.dst (mk1 b1)).put o2.dst (mk2 b2)) (more [(b2, c2, t2), (b1, c1, t1)] S) :=
      fun b1 b2 x1 x2 x3 x4 x5 => wpAnyG_of_walk hsel hT l _ _ _ (fun p hp => .inr (hS p hp)) ((inv.set hi' hin).set hji hjn) hB' (hK b1 b2 x1 x2 x3 x4 x5)
    show wpAnyG P md ops B W St kd n _ (counts l + 1 + 1) listed a S
    refine ⟨fun e => (by rw [e] at hi'; cases hi'), fun k hk => ?_⟩
    rcases hr k hk with rfl | rfl
    · refine ⟨hin, ?_⟩
      unfold gOp
      simp only [ho1, hw1, if_true, hki]
      refine ⟨_, fun w hc => at2_of_A (h1 w hc), fun v T hN hz hne => ?_⟩
      obtain ⟨b1, rfl, rfl⟩ := hN
      refine one_ready hji hri hjn ho2 (by rw [wanted_put o2 a o1.dst _ p1]; exact hw2) hkj ?_
      refine ⟨_, fun w hc => at2_of_A (atR_same (put_size _ _ _) (execOp_put o2 s2 a o1.dst _ p1) (h2 w ⟨hc.1, fun p hp => hc.2 p (.inr hp)⟩)), fun v T hN hz' hne' => ?_⟩
      obtain ⟨b2, rfl, rfl⟩ := hN
      rw [more_two]
      exact fin b1 b2 (hz (b1, c1, t1) (by simp)) (hz' (b2, c2, t2) (by simp)) (Ne.symm (hne' (b2, c2, t2) (b1, c1, t1) (by simp) (.inl (by simp)))) (fun q hq => hne (b1, c1, t1) q (by simp) hq) (fun q hq => hne' (b2, c2, t2) q (by simp) (.inr hq))
    · refine ⟨hjn, ?_⟩
      unfold gOp
      simp only [ho2, hw2, if_true, hkj]
      refine ⟨_, fun w hc => at2_of_A (h2 w hc), fun v T hN hz hne => ?_⟩
      obtain ⟨b2, rfl, rfl⟩ := hN
      refine one_ready hij' hrj hin ho1 (by rw [wanted_put o1 a o2.dst _ p3]; exact hw1) hki ?_
      refine ⟨_, fun w hc => at2_of_A (atR_same (put_size _ _ _) (execOp_put o1 s1 a o2.dst _ p3) (h1 w ⟨hc.1, fun p hp => hc.2 p (.inr hp)⟩)), fun v T hN hz' hne' => ?_⟩
      obtain ⟨b1, rfl, rfl⟩ := hN
      rw [more_swap, ← Act.put_comm a (mk1 b1) (mk2 b2) p2, Array.setIfInBounds_comm _ _ (Ne.symm hij)]
      exact fin b1 b2 (hz' (b1, c1, t1) (by simp)) (hz (b2, c2, t2) (by simp)) (hne' (b1, c1, t1) (b2, c2, t2) (by simp) (.inl (by simp))) (fun q hq => hne' (b1, c1, t1) q (by simp) (.inr hq)) (fun q hq => hne (b2, c2, t2) q (by simp) hq)

/-! The check by numbers: a row for each operation: its place; whom it waits for, what it writes, what it looks at, each as the bits of a number. -/
abbrev Row4 := Nat × Nat × Nat × Nat
def has (D i : Nat) : Bool := Nat.beq (Nat.land (Nat.shiftRight D i) 1) 1
theorem has_iff (D i : Nat) : has D i = D.testBit i := by
  show Nat.beq ((D >>> i) &&& 1) 1 = D.testBit i
  rw [Nat.testBit, Nat.and_comm]
  rcases Nat.mod_two_eq_zero_or_one (D >>> i) with h | h <;> simp [h] <;> rfl
def afterM (md : Region.Mode) (o : Oper) : Nat := o.after.toList.foldr (fun e m => if Region.binds md e then Nat.lor (Nat.shiftLeft 1 e.on) m else m) 0
def dstM (o : Oper) : Nat := match o.dst with | some d => Nat.shiftLeft 1 d | none => 0
def looksM (ops : Array Oper) (o : Oper) : Nat := (o.looksAt ops).foldr (fun t m => Nat.lor (Nat.shiftLeft 1 t) m) 0

theorem bit_shift (i k : Nat) : (Nat.shiftLeft 1 i).testBit k = decide (i = k) := by
  show (1 <<< i).testBit k = _
  rw [Nat.one_shiftLeft, Nat.testBit_two_pow]
theorem bit_lor (a b k : Nat) : (Nat.lor a b).testBit k = (a.testBit k || b.testBit k) := Nat.testBit_or a b k
theorem bit_land (a b k : Nat) : (Nat.land a b).testBit k = (a.testBit k && b.testBit k) := Nat.testBit_and a b k
theorem land_zero {a b : Nat} (h : Nat.beq (Nat.land a b) 0 = true) (k : Nat) (ha : a.testBit k = true) (hb : b.testBit k = true) : False := by
  have h := Nat.eq_of_beq_eq_true h
  have := bit_land a b k
  rw [h, ha, hb] at this
  simp at this
theorem afterM_bit (md : Region.Mode) (o : Oper) (k : Nat) : (afterM md o).testBit k = true ↔ ∃ e ∈ o.after, Region.binds md e = true ∧ e.on = k := by
  have H : ∀ l : List Edge, (l.foldr (fun e m => if Region.binds md e then Nat.lor (Nat.shiftLeft 1 e.on) m else m) 0).testBit k = true ↔ ∃ e ∈ l, Region.binds md e = true ∧ e.on = k := by
    intro l
    induction l with
    | nil => simp
    | cons e l ih =>
      simp only [List.foldr_cons, List.mem_cons, exists_eq_or_imp]
      rw [← ih]
      by_cases hb : Region.binds md e = true
      · simp only [hb, if_true, bit_lor, bit_shift, Bool.or_eq_true, decide_eq_true_eq, true_and]
      · simp [hb]
  rw [afterM, H]; simp
theorem looksM_bit (o : Oper) (t : Nat) : (looksM ops o).testBit t = true ↔ t ∈ o.looksAt ops := by
  have H : ∀ l : List Nat, (l.foldr (fun t m => Nat.lor (Nat.shiftLeft 1 t) m) 0).testBit t = true ↔ t ∈ l := by
    intro l
    induction l with
    | nil => simp
    | cons e l ih => simp only [List.foldr_cons, bit_lor, bit_shift, Bool.or_eq_true, ih, decide_eq_true_eq, List.mem_cons]; exact ⟨fun h => h.imp (·.symm) id, fun h => h.imp (·.symm) id⟩
  exact H _
theorem dstM_bit (o : Oper) (t : Nat) : (dstM o).testBit t = true ↔ o.dst = some t := by
  unfold dstM
  cases o.dst with
  | none => simp
  | some d => simp only [bit_shift, decide_eq_true_eq, Option.some.injEq]

def tableB (md : Region.Mode) (ops : Array Oper) : Nat → List Oper → List Row4 → Bool
  | _, [], [] => true
  | j, o :: l, (k, a, d, s) :: T => Nat.beq j k && Nat.beq (afterM md o) a && Nat.beq (dstM o) d && Nat.beq (looksM ops o) s && tableB md ops (j + 1) l T
  | _, _, _ => false
def rowOf (md : Region.Mode) (ops : Array Oper) (j : Nat) (o : Oper) : Row4 := (j, afterM md o, dstM o, looksM ops o)
theorem table_get : ∀ {j : Nat} {l : List Oper} {T : List Row4}, tableB md ops j l T = true → ∀ i : Nat, T[i]? = (l[i]?).map (rowOf md ops (j + i))
  | _, [], [], _, i => by simp
  | j, o :: l, (k, a, d, s) :: T, h, i => by
    simp only [tableB, Bool.and_eq_true] at h
    obtain ⟨⟨⟨⟨h0, h1⟩, h2⟩, h3⟩, h4⟩ := h
    cases i with
    | zero => simp [rowOf, Nat.eq_of_beq_eq_true h0, Nat.eq_of_beq_eq_true h1, Nat.eq_of_beq_eq_true h2, Nat.eq_of_beq_eq_true h3]
    | succ i => simp [table_get h4 i, Nat.add_assoc, Nat.add_comm 1 i]
  | _, [], _ :: _, h, _ => by simp [tableB] at h
  | _, _ :: _, [], h, _ => by simp [tableB] at h

def readyM (D : Nat) (r : Row4) : Bool := !has D r.1 && Nat.beq (Nat.land r.2.1 D) r.2.1
/-- No other one may come up. -/
def onlyM (D : Nat) (ok : Nat) : List Row4 → Bool
  | [] => true
  | r :: T => (has ok r.1 || !readyM D r) && onlyM D ok T
def freeM (D : Nat) (x : Row4) : List Row4 → Bool
  | [] => true
  | r :: T => (Nat.beq r.1 x.1 || has D r.1 || has r.2.1 x.1 || (Nat.beq (Nat.land x.2.2.1 r.2.2.2) 0 && Nat.beq (Nat.land x.2.2.1 r.2.2.1) 0 && Nat.beq (Nat.land r.2.2.1 x.2.2.2) 0)) && freeM D x T
def upS (m : Nat) (r : Row4) : Nat := bif has m r.1 then Nat.lor m r.2.1 else m
/-- What these wait for, directly or not. -/
def upL : List Row4 → Nat → Nat
  | [], m => m
  | r :: T, m => upS (upL T m) r
def chgT (T0 : List Row4) (C D i : Nat) : List Row4 → Bool
  | [] => true
  | r :: T => (!has C r.1 || has D r.1 || has r.2.1 i || has (upL T0 r.2.1) i) && chgT T0 C D i T
def chgM (C D i : Nat) (T0 : List Row4) : Bool := chgT T0 C D i T0
def sinkM (n : Nat) : List Row4 → Bool
  | [] => true
  | r :: T => (!Nat.blt r.1 n || T.any (fun x => has x.2.1 r.1 && Nat.ble x.1 n)) && sinkM n T
def chainM (n : Nat) : List Row4 → Bool
  | [] => true
  | r :: T => (Nat.ble r.1 n || has r.2.1 (r.1 - 1)) && chainM n T
def seqM (T0 : List Row4) : List (Nat × Nat) → Nat → Nat → Nat → Bool
  | [], g, k, D => Nat.beq g 0 && onlyM D 0 T0
  | (i, D') :: r, g, k, D => Nat.beq i k && Nat.blt 0 g && Nat.beq D' (Nat.lor D (Nat.shiftLeft 1 i)) && onlyM D (Nat.shiftLeft 1 i) T0 && (match T0[i]? with | some x => readyM D x | none => false) && seqM T0 r (g - 1) (k + 1) D'
def kinds (C G : Nat) (i : Nat) : Nat := if has C i then 3 else if has G i then 1 else 0
def orderM (T0 : List Row4) (C G n g : Nat) (tl : List (Nat × Nat)) : List (Mv × Nat) → Nat → Bool
  | [], D => seqM T0 tl g n D
  | (.q i, D') :: r, D => Nat.blt i n && !has C i && !has G i && Nat.beq D' (Nat.lor D (Nat.shiftLeft 1 i)) && (match T0[i]? with | some x => readyM D x && freeM D x T0 | none => false) && chgM C D i T0 && orderM T0 C G n g tl r D'
  | (.p i, D') :: r, D => Nat.blt i n && !has C i && !has G i && Nat.beq D' (Nat.lor D (Nat.shiftLeft 1 i)) && (match T0[i]? with | some x => readyM D x && freeM D x T0 | none => false) && orderM T0 C G n g tl r D'
  | (.g i, D') :: r, D => Nat.blt i n && !has C i && has G i && Nat.beq D' (Nat.lor D (Nat.shiftLeft 1 i)) && (match T0[i]? with | some x => readyM D x | none => false) && onlyM D (Nat.shiftLeft 1 i) T0 && orderM T0 C G n g tl r D'
  | (.c i, D') :: r, D => Nat.blt i n && has C i && Nat.beq D' (Nat.lor D (Nat.shiftLeft 1 i)) && (match T0[i]? with | some x => readyM D x | none => false) && onlyM D (Nat.shiftLeft 1 i) T0 && orderM T0 C G n g tl r D'
  | (.gg i j, D') :: r, D => Nat.blt i n && Nat.blt j n && !has C i && !has C j && has G i && has G j && !Nat.beq i j && Nat.beq D' (Nat.lor (Nat.lor D (Nat.shiftLeft 1 i)) (Nat.shiftLeft 1 j)) &&
      (match T0[i]?, T0[j]? with | some x, some y => readyM D x && readyM D y && (Nat.beq (Nat.land x.2.2.1 y.2.2.2) 0 && Nat.beq (Nat.land x.2.2.1 y.2.2.1) 0 && Nat.beq (Nat.land y.2.2.1 x.2.2.2) 0) | _, _ => false) &&
      onlyM D (Nat.lor (Nat.shiftLeft 1 i) (Nat.shiftLeft 1 j)) T0 && onlyM (Nat.lor D (Nat.shiftLeft 1 i)) (Nat.shiftLeft 1 j) T0 && onlyM (Nat.lor D (Nat.shiftLeft 1 j)) (Nat.shiftLeft 1 i) T0 && orderM T0 C G n g tl r D'

/-- The number D stands for what has come up. -/
def Lst (ops : Array Oper) (D : Nat) (listed : Array Bool) : Prop := listed.size = ops.size ∧ ∀ j, listed.getD j false = D.testBit j
theorem Lst.set {D i : Nat} {listed : Array Bool} (h : Lst ops D listed) (hi : i < ops.size) : Lst ops (Nat.lor D (Nat.shiftLeft 1 i)) (listed.setIfInBounds i true) := by
  refine ⟨by simp [h.1], fun j => ?_⟩
  rw [bit_lor, bit_shift, ← h.2 j]
  by_cases hij : i = j
  · subst hij; simp [h.1, hi]
  · rw [getD_set_ne false hij]; simp [hij]
theorem Lst.un {D j : Nat} {listed : Array Bool} (h : Lst ops D listed) (hj : j < ops.size) : listed.getD j true = false ↔ D.testBit j = false := by
  rw [← h.2 j]
  exact ⟨getD_both, getD_in (by rw [h.1]; exact hj)⟩

section table
variable {l : List Oper} {T0 : List Row4} (ht : tableB md l.toArray 0 l T0 = true)
include ht
theorem row_get {i : Nat} {x : Row4} (h : T0[i]? = some x) : ∃ o, l[i]? = some o ∧ x = rowOf md l.toArray i o := by
  rw [table_get ht i, Nat.zero_add] at h
  cases ho : l[i]? with
  | none => rw [ho] at h; cases h
  | some o => rw [ho] at h; exact ⟨o, rfl, (Option.some.inj h).symm⟩
theorem row_of {i : Nat} {o : Oper} (h : l[i]? = some o) : rowOf md l.toArray i o ∈ T0 := by
  have := table_get ht i
  rw [h, Nat.zero_add] at this
  exact List.mem_of_getElem? this
omit ht in
theorem ready_bit {D i : Nat} {o : Oper} {listed : Array Bool} (hL : Lst l.toArray D listed) (ho : l[i]? = some o) : i ∈ Region.ready md l.toArray listed ↔ readyM D (rowOf md l.toArray i o) = true := by
  have hi : i < l.toArray.size := by simpa using (List.getElem?_eq_some_iff.1 ho).1
  rw [mem_ready, hL.un hi]
  simp only [readyM, rowOf, has_iff, Bool.and_eq_true, Bool.not_eq_true', at_list0 ho, Option.some.injEq, exists_eq_left']
  refine and_congr Iff.rfl ⟨fun h => ?_, fun h e he hb => ?_⟩
  · refine (fun e : Nat.land (afterM md o) D = afterM md o => by rw [e]; exact Nat.beq_refl _) ?_
    refine Nat.eq_of_testBit_eq fun k => ?_
    rw [bit_land]
    cases hk : (afterM md o).testBit k with
    | false => rfl
    | true =>
      obtain ⟨e, he, hb, rfl⟩ := (afterM_bit md o k).1 hk
      rw [← hL.2, h e he hb]; rfl
  · have h := Nat.eq_of_beq_eq_true h
    rw [hL.2]
    have h1 := (afterM_bit md o e.on).2 ⟨e, he, hb, rfl⟩
    rw [← h, bit_land, Bool.and_eq_true] at h1
    exact h1.2
theorem only_spec {D ok : Nat} {listed : Array Bool} (hL : Lst l.toArray D listed) (h : onlyM D ok T0 = true) (j : Nat) (hj : j ∈ Region.ready md l.toArray listed) : ok.testBit j = true := by
  obtain ⟨_, o, ho, _⟩ := mem_ready.1 hj
  have ho' : l[j]? = some o := by simpa using ho
  have H : ∀ T : List Row4, onlyM D ok T = true → ∀ r ∈ T, readyM D r = true → ok.testBit r.1 = true := by
    intro T
    induction T with
    | nil => intro _ r hr; cases hr
    | cons r T ih =>
      intro hT x hx hrx
      simp only [onlyM, Bool.and_eq_true, Bool.or_eq_true, Bool.not_eq_true'] at hT
      cases hx with
      | head => rcases hT.1 with h | h
                · rw [← has_iff]; exact h
                · rw [hrx] at h; cases h
      | tail _ hx => exact ih hT.2 x hx hrx
  exact H T0 h _ (row_of ht ho') ((ready_bit hL ho').1 hj)
theorem free_spec {D i : Nat} {listed : Array Bool} {x : Row4} (hx : T0[i]? = some x) (hL : Lst l.toArray D listed) (h : freeM D x T0 = true) : ∀ oi, l.toArray[i]? = some oi → ∀ j oj, l.toArray[j]? = some oj → j ≠ i → listed.getD j true = false → (∀ e ∈ oj.after, Region.binds md e = true → e.on ≠ i) → oi.apart l.toArray oj = true := by
  intro oi hoi j oj hoj hne hun hno
  obtain ⟨o, ho, rfl⟩ := row_get ht hx
  have : o = oi := Option.some.inj (ho.symm.trans (by simpa using hoi))
  subst this
  have hoj' : l[j]? = some oj := by simpa using hoj
  have hj : j < l.toArray.size := by simpa using (List.getElem?_eq_some_iff.1 hoj').1
  have H : ∀ T : List Row4, freeM D (rowOf md l.toArray i o) T = true → ∀ r ∈ T, (Nat.beq r.1 i || has D r.1 || has r.2.1 i || (Nat.beq (Nat.land (dstM o) r.2.2.2) 0 && Nat.beq (Nat.land (dstM o) r.2.2.1) 0 && Nat.beq (Nat.land r.2.2.1 (looksM l.toArray o)) 0)) = true := by
    intro T
    induction T with
    | nil => intro _ r hr; cases hr
    | cons r T ih =>
      intro hT y hy
      simp only [freeM, rowOf, Bool.and_eq_true] at hT
      cases hy with
      | head => simpa only [rowOf, Bool.and_eq_true] using hT.1
      | tail _ hy => exact ih (by simpa only [rowOf] using hT.2) y hy
  have h1 := H T0 h _ (row_of ht hoj')
  simp only [rowOf, Bool.or_eq_true, Bool.and_eq_true, has_iff] at h1
  rcases h1 with ((h1 | h1) | h1) | ⟨⟨h1, h2⟩, h3⟩
  · exact absurd (Nat.eq_of_beq_eq_true h1) hne
  · rw [(hL.un hj).1 hun] at h1; cases h1
  · obtain ⟨e, he, hb, hon⟩ := (afterM_bit md oj i).1 h1
    exact absurd hon (hno e he hb)
  · unfold Oper.apart
    simp only [Bool.and_eq_true]
    constructor
    · cases hd : o.dst with
      | none => rfl
      | some d =>
        simp only [Bool.and_eq_true, Bool.not_eq_true', bne_iff_ne]
        have hb := (dstM_bit o d).2 hd
        refine ⟨?_, fun hd2 => land_zero h2 d hb ((dstM_bit oj d).2 hd2)⟩
        cases hc : (oj.looksAt l.toArray).contains d with
        | false => rfl
        | true => exact (land_zero h1 d hb ((looksM_bit oj d).2 (by simpa using hc))).elim
    · cases hd : oj.dst with
      | none => rfl
      | some d =>
        simp only [Bool.not_eq_true']
        cases hc : (o.looksAt l.toArray).contains d with
        | false => rfl
        | true => exact (land_zero h3 d ((dstM_bit oj d).2 hd) ((looksM_bit o d).2 (by simpa using hc))).elim
omit ht in
theorem waits_bit {j i : Nat} {o : Oper} (ho : l[j]? = some o) : Region.waitsFor md l.toArray j i = (afterM md o).testBit i := by
  rw [Bool.eq_iff_iff, afterM_bit]
  unfold Region.waitsFor
  simp only [at_list0 ho, Array.any_eq_true', Bool.and_eq_true, beq_iff_eq]
theorem up_spec {k : Nat} : ∀ (T : List Row4), (∀ r ∈ T, r ∈ T0) → ∀ m, (upL T m).testBit k = true → m.testBit k = true ∨ ∃ q, m.testBit q = true ∧ Upto md l.toArray q k := by
  intro T
  induction T generalizing k with
  | nil => intro _ m h; exact .inl h
  | cons r T ih =>
    intro hs m h
    have hs' : ∀ r ∈ T, r ∈ T0 := fun r hr => hs r (List.mem_cons_of_mem _ hr)
    unfold upL upS at h
    cases hb : has (upL T m) r.1 <;> simp only [hb, cond_true, cond_false] at h
    · exact ih hs' m h
    · rw [bit_lor, Bool.or_eq_true] at h
      rcases h with h | h
      · exact ih hs' m h
      · obtain ⟨i, hi⟩ := List.getElem?_of_mem (hs r (List.mem_cons_self ..))
        obtain ⟨o, ho, hr⟩ := row_get ht hi
        have e1 : r.1 = i := by rw [hr]; rfl
        have e2 : r.2.1 = afterM md o := by rw [hr]; rfl
        have hw : Region.waitsFor md l.toArray i k = true := by rw [waits_bit ho, ← e2]; exact h
        rw [has_iff] at hb
        rcases ih hs' m hb with h1 | ⟨q, h1, h2⟩
        · exact .inr ⟨i, by rw [← e1]; exact h1, .one hw⟩
        · exact .inr ⟨q, h1, by rw [e1] at h2; exact h2.snoc hw⟩
theorem chg_spec {C G D i : Nat} {listed : Array Bool} (hL : Lst l.toArray D listed) (h : chgM C D i T0 = true) (j : Nat) (hk : kinds C G j = 3) (hun : listed.getD j true = false) : Upto md l.toArray j i := by
  have hj : j < l.toArray.size := by
    rcases Nat.lt_or_ge j l.toArray.size with h' | h'
    · exact h'
    · have : listed[j]? = none := Array.getElem?_eq_none (by rw [hL.1]; exact h')
      simp [this] at hun
  have hC : has C j = true := by
    unfold kinds at hk
    split at hk
    · assumption
    · split at hk <;> simp at hk
  obtain ⟨o, ho⟩ : ∃ o, l[j]? = some o := ⟨_, List.getElem?_eq_getElem (by simpa using hj)⟩
  have H : ∀ T : List Row4, chgT T0 C D i T = true → ∀ r ∈ T, (!has C r.1 || has D r.1 || has r.2.1 i || has (upL T0 r.2.1) i) = true := by
    intro T
    induction T with
    | nil => intro _ r hr; cases hr
    | cons r T ih =>
      intro hT y hy
      simp only [chgT, Bool.and_eq_true] at hT
      cases hy with
      | head => exact hT.1
      | tail _ hy => exact ih hT.2 y hy
  have h1 := H T0 h _ (row_of ht ho)
  simp only [rowOf, hC, Bool.not_true, Bool.false_or, Bool.or_eq_true, has_iff] at h1
  rcases h1 with (h1 | h1) | h1
  · rw [(hL.un hj).1 hun] at h1; cases h1
  · exact .one (by rw [waits_bit ho]; exact h1)
  · rcases up_spec ht T0 (fun _ h => h) _ h1 with h2 | ⟨q, h2, h3⟩
    · exact .one (by rw [waits_bit ho]; exact h2)
    · exact .more (by rw [waits_bit ho]; exact h2) h3
theorem seq_spec : ∀ (tl : List (Nat × Nat)) (g k D : Nat) (listed : Array Bool), Lst l.toArray D listed → seqM T0 tl g k D = true → Region.seqB md l.toArray g k listed = true
  | [], g, k, D, listed, hL, h => by
    simp only [seqM, Bool.and_eq_true] at h
    obtain rfl := Nat.eq_of_beq_eq_true h.1
    simp only [Region.seqB, List.isEmpty_iff]
    cases hr : Region.ready md l.toArray listed with
    | nil => rfl
    | cons j r =>
      have := only_spec ht hL h.2 j (by rw [hr]; simp)
      simp at this
  | (i, D') :: tl, g, k, D, listed, hL, h => by
    simp only [seqM, Bool.and_eq_true] at h
    obtain ⟨⟨⟨⟨⟨h0, hg⟩, hD⟩, ho⟩, hx⟩, h2⟩ := h
    obtain rfl := Nat.eq_of_beq_eq_true h0
    obtain rfl := Nat.eq_of_beq_eq_true hD
    obtain ⟨g', rfl⟩ : ∃ g', g = g' + 1 := ⟨g - 1, by have := Nat.le_of_ble_eq_true hg; omega⟩
    cases hT : T0[i]? with
    | none => rw [hT] at hx; cases hx
    | some x =>
      rw [hT] at hx
      obtain ⟨o, hoi, rfl⟩ := row_get ht hT
      have hi : i < l.toArray.size := by simpa using (List.getElem?_eq_some_iff.1 hoi).1
      have hr : i ∈ Region.ready md l.toArray listed := (ready_bit hL hoi).2 hx
      have hall : ∀ j, j ∈ Region.ready md l.toArray listed → j = i := fun j hj => by
        have := only_spec ht hL ho j hj
        rw [bit_shift] at this
        exact (of_decide_eq_true this).symm
      have hone : Region.ready md l.toArray listed = [i] := by
        have hnd : (Region.ready md l.toArray listed).Nodup := List.Nodup.sublist List.filter_sublist List.nodup_range
        match hq : Region.ready md l.toArray listed, hr, hall, hnd with
        | [a], hr, hall, _ => rw [hall a (by simp)]
        | a :: b :: r, hr, hall, hnd =>
          have h1 := hall a (by simp)
          have h2 := hall b (by simp)
          simp [h1, h2] at hnd
        | [], hr, _, _ => cases hr
      simp only [Region.seqB, hone, decide_true, Bool.true_and]
      exact seq_spec tl g' (i + 1) _ _ (hL.set hi) (by simpa using h2)
theorem order_spec {C G n g : Nat} {tl : List (Nat × Nat)} : ∀ (ord : List (Mv × Nat)) (D : Nat) (listed : Array Bool), Lst l.toArray D listed → orderM T0 C G n g tl ord D = true → Order md l.toArray n g (kinds C G) (ord.map (·.1)) listed
  | [], D, listed, hL, h => seq_spec ht tl g n D listed hL h
  | (.q i, D') :: r, D, listed, hL, h => by
    simp only [orderM, Bool.and_eq_true, Bool.not_eq_true'] at h
    obtain ⟨⟨⟨⟨⟨⟨hn, hC⟩, hG⟩, hD⟩, hx⟩, hc⟩, h2⟩ := h
    obtain rfl := Nat.eq_of_beq_eq_true hD
    cases hT : T0[i]? with
    | none => rw [hT] at hx; cases hx
    | some x =>
      rw [hT] at hx
      simp only [Bool.and_eq_true] at hx
      obtain ⟨o, hoi, rfl⟩ := row_get ht hT
      have hi : i < l.toArray.size := by simpa using (List.getElem?_eq_some_iff.1 hoi).1
      exact ⟨Nat.le_of_ble_eq_true hn, by simp [kinds, hC, hG], (ready_bit hL hoi).2 hx.1, free_spec ht hT hL hx.2, chg_spec ht hL hc, order_spec r _ _ (hL.set hi) h2⟩
  | (.p i, D') :: r, D, listed, hL, h => by
    simp only [orderM, Bool.and_eq_true, Bool.not_eq_true'] at h
    obtain ⟨⟨⟨⟨⟨hn, hC⟩, hG⟩, hD⟩, hx⟩, h2⟩ := h
    obtain rfl := Nat.eq_of_beq_eq_true hD
    cases hT : T0[i]? with
    | none => rw [hT] at hx; cases hx
    | some x =>
      rw [hT] at hx
      simp only [Bool.and_eq_true] at hx
      obtain ⟨o, hoi, rfl⟩ := row_get ht hT
      have hi : i < l.toArray.size := by simpa using (List.getElem?_eq_some_iff.1 hoi).1
      exact ⟨Nat.le_of_ble_eq_true hn, by simp [kinds, hC, hG], (ready_bit hL hoi).2 hx.1, free_spec ht hT hL hx.2, order_spec r _ _ (hL.set hi) h2⟩
  | (.g i, D') :: r, D, listed, hL, h => by
    simp only [orderM, Bool.and_eq_true, Bool.not_eq_true'] at h
    obtain ⟨⟨⟨⟨⟨⟨hn, hC⟩, hG⟩, hD⟩, hx⟩, hc⟩, h2⟩ := h
    obtain rfl := Nat.eq_of_beq_eq_true hD
    cases hT : T0[i]? with
    | none => rw [hT] at hx; cases hx
    | some x =>
      rw [hT] at hx
      obtain ⟨o, hoi, rfl⟩ := row_get ht hT
      have hi : i < l.toArray.size := by simpa using (List.getElem?_eq_some_iff.1 hoi).1
      exact ⟨Nat.le_of_ble_eq_true hn, by simp [kinds, hC, hG], (ready_bit hL hoi).2 hx, fun j hj => by have := only_spec ht hL hc j hj; rw [bit_shift] at this; exact (of_decide_eq_true this).symm, order_spec r _ _ (hL.set hi) h2⟩
  | (.c i, D') :: r, D, listed, hL, h => by
    simp only [orderM, Bool.and_eq_true, Bool.not_eq_true'] at h
    obtain ⟨⟨⟨⟨⟨hn, hC⟩, hD⟩, hx⟩, hc⟩, h2⟩ := h
    obtain rfl := Nat.eq_of_beq_eq_true hD
    cases hT : T0[i]? with
    | none => rw [hT] at hx; cases hx
    | some x =>
      rw [hT] at hx
      obtain ⟨o, hoi, rfl⟩ := row_get ht hT
      have hi : i < l.toArray.size := by simpa using (List.getElem?_eq_some_iff.1 hoi).1
      exact ⟨Nat.le_of_ble_eq_true hn, by simp [kinds, hC], (ready_bit hL hoi).2 hx, fun j hj => by have := only_spec ht hL hc j hj; rw [bit_shift] at this; exact (of_decide_eq_true this).symm, order_spec r _ _ (hL.set hi) h2⟩
  | (.gg i j, D') :: r, D, listed, hL, h => by
    simp only [orderM, Bool.and_eq_true, Bool.not_eq_true'] at h
    obtain ⟨⟨⟨⟨⟨⟨⟨⟨⟨⟨⟨⟨hn, hn2⟩, hC⟩, hC2⟩, hG⟩, hG2⟩, hij⟩, hD⟩, hx⟩, hc⟩, hc1⟩, hc2⟩, h2⟩ := h
    obtain rfl := Nat.eq_of_beq_eq_true hD
    cases hT : T0[i]? with
    | none => rw [hT] at hx; simp at hx
    | some x =>
      cases hT2 : T0[j]? with
      | none => rw [hT, hT2] at hx; simp at hx
      | some y =>
        rw [hT, hT2] at hx
        simp only [Bool.and_eq_true] at hx
        obtain ⟨⟨hrx, hry⟩, ⟨a1, a2⟩, a3⟩ := hx
        obtain ⟨o, hoi, rfl⟩ := row_get ht hT
        obtain ⟨o2, hoj, rfl⟩ := row_get ht hT2
        have hi : i < l.toArray.size := by simpa using (List.getElem?_eq_some_iff.1 hoi).1
        have hj : j < l.toArray.size := by simpa using (List.getElem?_eq_some_iff.1 hoj).1
        have hne : i ≠ j := fun e => by rw [e] at hij; simp at hij
        refine ⟨Nat.le_of_ble_eq_true hn, Nat.le_of_ble_eq_true hn2, by simp [kinds, hC, hG], by simp [kinds, hC2, hG2], hne, (ready_bit hL hoi).2 hrx, (ready_bit hL hoj).2 hry,
          fun k hk => ?_, fun k hk => ?_, fun k hk => ?_, fun x y hx hy => ?_, order_spec r _ _ ((hL.set hi).set hj) h2⟩
        · have := only_spec ht hL hc k hk
          rw [bit_lor, bit_shift, bit_shift, Bool.or_eq_true] at this
          exact this.imp (fun h => (of_decide_eq_true h).symm) (fun h => (of_decide_eq_true h).symm)
        · have := only_spec ht (hL.set hi) hc1 k hk
          rw [bit_shift] at this
          exact (of_decide_eq_true this).symm
        · have := only_spec ht (hL.set hj) hc2 k hk
          rw [bit_shift] at this
          exact (of_decide_eq_true this).symm
        · have e1 : o = x := Option.some.inj (hoi.symm.trans (by simpa using hx))
          have e2 : o2 = y := Option.some.inj (hoj.symm.trans (by simpa using hy))
          subst e1; subst e2
          simp only [rowOf] at a1 a2 a3
          unfold Oper.apart
          simp only [Bool.and_eq_true]
          constructor
          · cases hd : o.dst with
            | none => rfl
            | some d =>
              simp only [Bool.and_eq_true, Bool.not_eq_true', bne_iff_ne]
              have hb := (dstM_bit o d).2 hd
              refine ⟨?_, fun hd2 => land_zero a2 d hb ((dstM_bit o2 d).2 hd2)⟩
              cases hc : (o2.looksAt l.toArray).contains d with
              | false => rfl
              | true => exact (land_zero a1 d hb ((looksM_bit o2 d).2 (by simpa using hc))).elim
          · cases hd : o2.dst with
            | none => rfl
            | some d =>
              simp only [Bool.not_eq_true']
              cases hc : (o.looksAt l.toArray).contains d with
              | false => rfl
              | true => exact (land_zero a3 d ((dstM_bit o2 d).2 hd) ((looksM_bit o d).2 (by simpa using hc))).elim
theorem tail_spec {n : Nat} (h : (Nat.beq n l.length || (Nat.blt n l.length && sinkM n T0 && chainM n T0)) = true) : TailW md l.toArray n := by
  intro listed inv i hin hun t htr
  rcases Nat.lt_or_ge t n with h' | h'
  · exact h'
  · simp only [Bool.or_eq_true, Bool.and_eq_true] at h
    rcases h with h | ⟨⟨h1, h2⟩, h3⟩
    · obtain ⟨_, ot, hot, _⟩ := mem_ready.1 htr
      have := (Array.getElem?_eq_some_iff.1 hot).1
      have := Nat.eq_of_beq_eq_true h
      simp at *; omega
    · have hlt : n < l.toArray.size := by have := Nat.le_of_ble_eq_true h1; simp; omega
      refine absurd htr (tail_waits ?_ ?_ hlt inv _ i rfl hin hun t h')
      · unfold Region.sinkB
        rw [List.all_eq_true]
        intro k hk
        have hkn : k < n := List.mem_range.1 hk
        have hkl : k < l.length := by simp at hlt; omega
        obtain ⟨o, ho⟩ : ∃ o, l[k]? = some o := ⟨_, List.getElem?_eq_getElem hkl⟩
        have H : ∀ (T : List Row4) (j : Nat), (∀ q, T[q]? = (l[j + q]?).map (rowOf md l.toArray (j + q))) → sinkM n T = true → ∀ q o, l[j + q]? = some o → j + q < n → ∃ p, j + q < p ∧ p ≤ n ∧ Region.waitsFor md l.toArray p (j + q) = true := by
          intro T
          induction T with
          | nil => intro j hT _ q o hq; have := hT q; rw [hq] at this; simp at this
          | cons r T ih =>
            intro j hT hs q o hq hqn
            simp only [sinkM, Bool.and_eq_true, Bool.or_eq_true, Bool.not_eq_true'] at hs
            cases q with
            | zero =>
              have h0 := hT 0
              rw [hq] at h0
              simp at h0
              subst h0
              rcases hs.1 with h | h
              · have : Nat.blt j n = true := Nat.ble_eq_true_of_le hqn
                have h' : Nat.blt j n = false := h
                rw [this] at h'
                cases h'
              · obtain ⟨x, hx, hx2⟩ := List.any_eq_true.1 h
                obtain ⟨p, hp⟩ := List.getElem?_of_mem hx
                have h1 := hT (p + 1)
                simp only [List.getElem?_cons_succ, hp] at h1
                cases hlp : l[j + (p + 1)]? with
                | none => rw [hlp] at h1; cases h1
                | some o' =>
                  rw [hlp] at h1
                  have := Option.some.inj h1
                  subst this
                  simp only [rowOf, Bool.and_eq_true, has_iff] at hx2
                  exact ⟨j + (p + 1), by omega, Nat.le_of_ble_eq_true hx2.2, by rw [waits_bit hlp]; exact hx2.1⟩
            | succ q =>
              have := ih (j + 1) (fun q => by have := hT (q + 1); simpa [Nat.add_assoc, Nat.add_comm 1 q] using this) hs.2 q o (by simpa [Nat.add_assoc, Nat.add_comm 1 q] using hq) (by omega)
              simpa [Nat.add_assoc, Nat.add_comm 1 q] using this
        obtain ⟨p, hp1, hp2, hp3⟩ := H T0 0 (fun q => by have := table_get ht q; simpa using this) h2 k o (by simpa using ho) (by simpa using hkn)
        simp only [Nat.zero_add] at hp1 hp3
        rw [List.any_eq_true]
        exact ⟨p, List.mem_range.2 (by omega), by simp [hp1, hp3]⟩
      · unfold Region.chainB
        rw [List.all_eq_true]
        intro k hk
        have hkl : k < l.length := by simpa using List.mem_range.1 hk
        obtain ⟨o, ho⟩ : ∃ o, l[k]? = some o := ⟨_, List.getElem?_eq_getElem hkl⟩
        have H : ∀ T : List Row4, chainM n T = true → ∀ r ∈ T, (Nat.ble r.1 n || has r.2.1 (r.1 - 1)) = true := by
          intro T
          induction T with
          | nil => intro _ r hr; cases hr
          | cons r T ih =>
            intro hT y hy
            simp only [chainM, Bool.and_eq_true] at hT
            cases hy with
            | head => exact hT.1
            | tail _ hy => exact ih hT.2 y hy
        have h1 := H T0 h3 _ (row_of ht ho)
        simp only [rowOf, Bool.or_eq_true, has_iff] at h1
        rcases h1 with h1 | h1
        · simp [Nat.le_of_ble_eq_true h1]
        · rw [waits_bit ho, h1]; simp
end table

def regionB (md : Region.Mode) (l : List Oper) (n C G : Nat) (T0 : List Row4) (ord : List (Mv × Nat)) (tl : List (Nat × Nat)) : Bool :=
  tableB md l.toArray 0 l T0 && Region.noSelect l.toArray && (Nat.beq n l.length || (Nat.blt n l.length && sinkM n T0 && chainM n T0)) && Nat.beq (counts (ord.map (·.1))) n && Nat.ble n l.length && orderM T0 C G n (l.length - n) tl ord 0

/-- One walk of a region that draws its order. -/
theorem wpAny_region_grow {Q : Exit → Act → World → Prop} {a : Act} {w : World} {l : List Oper} {H : List Block} (B n C G : Nat) (T0 : List Row4) (ord : List (Mv × Nat)) (tl : List (Nat × Nat)) (St : List Block) (hSt : ∀ p, p ∈ St → p ∈ H) (hBW : B ≤ w.heap.size) (hB : regionB .any l n C G T0 ord tl = true)
    (hO : Own H w)
    (h : wpG P l.toArray B w.drew St (fun a' S => ∀ w', Below B w w' → Holds S w' → wpList P l.toArray Q (l.drop n) a' w') (ord.map (·.1)) a (· ∈ H)) : wpAny P .any l.toArray Q l.toArray.size (Array.replicate l.toArray.size false) a w.drew := by
  simp only [regionB, Bool.and_eq_true] at hB
  obtain ⟨⟨⟨⟨⟨ht, hsel⟩, hT⟩, hlen⟩, hn⟩, hord⟩ := hB
  have hlen := Nat.eq_of_beq_eq_true hlen
  have hn := Nat.le_of_ble_eq_true hn
  have hdl : (l.drop n).length = l.length - n := by simp
  have inv0 : HeadInv .any l.toArray n (Array.replicate l.toArray.size false) :=
    ⟨by simp, fun j oj _ hl => (by rw [getD_replicate_false] at hl; cases hl), fun t _ ht => getD_in (by simpa using ht) (getD_replicate_false _ _)⟩
  have hL0 : Lst l.toArray 0 (Array.replicate l.toArray.size false) := ⟨by simp, fun j => by rw [getD_replicate_false]; simp⟩
  have HH := wpAnyG_of_walk (md := .any) hsel (tail_spec ht hT) (ord.map (·.1)) _ a _ hSt inv0 (order_spec ht ord 0 _ hL0 hord) h
  have hC0 : Cls B w.drew (· ∈ H) w.drew := ⟨Below.refl _ _, hO.drew⟩
  have := wpAny_of_G (Q' := Q) (W := w.drew) (g := l.length - n) hBW (fun listed a' S w' hC hL => by
    have hb : Below B w w' := (Below.drew (Below.refl _ w)).trans hC.1
    have := wpAny_of_seq (md := .any) (Q' := Q) (l.drop n) n listed a' w' (fun j => by simp [List.getElem?_drop]) (by rw [hdl]; exact hL.1) (hL.2 w' hb hC.2)
    rwa [hdl] at this) _ _ _ _ _ hC0 HH
  rw [hlen, show n + (l.length - n) = l.toArray.size by simp; omega] at this
  exact this

theorem wp_region_grow {id : Nat} {Q : Exit → Act → World → Prop} {a : Act} {w : World} {l : List Oper} {H : List Block} (B n C G : Nat) (T0 : List Row4) (ord : List (Mv × Nat)) (tl : List (Nat × Nat)) (St : List Block) (hSt : ∀ p, p ∈ St → p ∈ H) (hBW : B ≤ w.heap.size) (hm : P.follows .mixedOrders = true) (hB : regionB .any l n C G T0 ord tl = true)
    (hO : Own H w)
    (h : wpG P l.toArray B w.drew St (fun a' S => ∀ w', Below B w w' → Holds S w' → wpList P l.toArray Q (l.drop n) a' w') (ord.map (·.1)) a (· ∈ H)) : (Code.region id l.toArray true).wp P Q a w :=
  wp_region_any hm (wpAny_region_grow B n C G T0 ord tl St hSt hBW hB hO h)

/-- n + 1 + .. + 1 -/
def upN (n : Nat) : Nat → Nat
  | 0 => n
  | d + 1 => upN n d + 1
theorem le_up {b n : Nat} (d : Nat) (h : b < n) : b ≤ upN n d := by
  induction d with
  | zero => exact Nat.le_of_lt h
  | succ d ih => exact Nat.le_succ_of_le ih

/- The steps of the walk. -/
variable {L : Post} {i d : Nat} {o : Oper} {r : List Mv} {H : List Block} {l : List Oper} {tl : List Value} {ds : List Deferred}

theorem at_list (h : l[i]? = some o) : l.toArray[i]? = some o := by simpa using h
theorem at1_run {a : Act} {w : World} {v : Value} (h : (execOp a.eval o).run P w = .ok (.value v) w) : at1 P o a w v := by
  unfold at1 atR Oper.wp; rw [h, Oper.upon_value]; exact ⟨v, rfl, rfl, Below.refl _ _⟩
/-- At most block b has turned. -/
structure Same (b : Nat) (w w' : World) : Prop where
  os : w'.os = w.os
  tape : w'.tape = w.tape
  output : w'.output = w.output
  size : w'.heap.size = w.heap.size
  block : ∀ q, q ≠ b → w'.heap[q]? = w.heap[q]?
theorem Same.refl (b : Nat) (w : World) : Same b w w := ⟨rfl, rfl, rfl, rfl, fun _ _ => rfl⟩
theorem Same.set {b : Nat} {w w' : World} (h : Same b w w') (o : Nat) (v : Value) : Same b w (w'.setCell ⟨b, o, none⟩ v) :=
  ⟨h.os, h.tape, h.output, by simp [World.setCell, h.size], fun q hq => by rw [Below.heap_setCell _ _ _ _ hq]; exact h.block q hq⟩
theorem Blk.set {w : World} {b : Nat} {c : Array Value} {t : TypeId} (h : Blk w b c t) (o : Nat) (v : Value) : Blk (w.setCell ⟨b, o, none⟩ v) b (c.setIfInBounds o v) t := by
  unfold Blk at h ⊢
  simp [World.setCell, Array.getElem?_modify, h]
end
end Go.Proofs.Ytcfomhnfhalmaaa
end

section
set_option linter.unusedVariables false
set_option linter.unusedSimpArgs false
namespace Go.Proofs.Ytcfomhnfhalmaaa
open Go.RowKit

/-- From this address on these cells lie. -/
def SlAt (w : World) (A : Option Addr) (cs : List Value) : Prop := cs = [] ∨ ∃ b off, A = some ⟨b, off, none⟩ ∧ b < w.heap.size ∧ ∀ (j : Nat) (u : Value), cs[j]? = some u → w.cell? ⟨b, off + j, none⟩ = some u
end Go.Proofs.Ytcfomhnfhalmaaa
end

section
set_option linter.unusedVariables false
set_option linter.unusedSimpArgs false
namespace Go.Proofs.Ytcfomhnfhalmaaa
open Go.RowKit

/-- These blocks lie as they lay. -/
structure Keep (S : Nat → Prop) (W W' : World) : Prop where
  os : W'.os = W.os
  tape : W'.tape = W.tape
  output : W'.output = W.output
  size : W.heap.size ≤ W'.heap.size
  block : ∀ k, S k → k < W.heap.size → W'.heap[k]? = W.heap[k]?
/-! ### What a function that goes over a list promises, where these blocks stay. -/
/-! ### The way out of a function that holds such ranges. -/
section
variable {P : Program}
theorem calls_marks {f : FuncId} {fn : Func} {c : Code} {args : Array Value} {w : World} {R : Ending → World → Prop} (hf : P.funcs[f]? = some fn) (hb : fn.body = some c)
    (h : c.wp P (bodyPostM Fence.wide 0 P fn R) { tmps := args ++ Array.replicate (fn.ntmps - args.size) undef, defers := [] } w) : Calls P f args w R :=
  (callsIn_wide (n := 0)).1 (callsIn_of_wp_marks hf hb trivial (wpIn_wide.2 h) rfl)
theorem Below.put {n : Nat} {w w' : World} (h : Below n w w') {D : Nat} (o : Obj) (hD : n ≤ D) : Below n w (w'.putObj D o) :=
  h.trans ⟨rfl, rfl, rfl, by simp [World.putObj], fun k hk => World.putObj_heap_other (by omega)⟩
end
end Go.Proofs.Ytcfomhnfhalmaaa
end

section
set_option linter.unusedVariables false
set_option linter.unusedSimpArgs false
namespace Go.Proofs.Ytcfomhnfhalmaaa
open Go.RowKit
namespace Fw
abbrev WP := World → Prop
/-- Growth keeps it. -/
def Stable (S : WP) : Prop := ∀ w w', S w → Below w.heap.size w w' → S w'
abbrev Post := Act → WP → Prop
section
variable {P : Program} {ops : Array Oper} {md : Region.Mode} {n : Nat} {kd : Nat → Nat} {St : WP}
/-- What is asked of an operation, by its kind: 1: it adds to what is known; 3: it changes it; else: it yields one value. -/
def Alt (P : Program) (St : WP) (o : Oper) (K : Post) (a : Act) (S : WP) : Nat → Prop
  | 1 => ∃ N : Value → WP → Prop, (∀ w, S w → atR P o a w fun u w' => ∃ S', N u S' ∧ S' w') ∧ ∀ u S', N u S' → Stable S' ∧ (∀ w, S' w → S w) ∧ K (a.put o.dst u) S'
  | 3 => ∃ N : Value → WP → Prop, (∀ w, S w → atR P o a w fun u w' => ∃ S', N u S' ∧ S' w') ∧ ∀ u S', N u S' → Stable S' ∧ (∀ w, S' w → St w) ∧ K (a.put o.dst u) S'
  | _ => ∃ v, (∀ w, S w → at1 P o a w v) ∧ K (a.put o.dst v) S
def gOp (P : Program) (ops : Array Oper) (St : WP) (kd : Nat → Nat) (i : Nat) (K : Post) (a : Act) (S : WP) : Prop :=
  match ops[i]? with
  | none => K a S
  | some o => if Region.wanted o (yielded ops a.tmps) then Alt P St o K a S (kd i) else K (a.put o.dst undef) S
theorem Alt.mono {o : Oper} {K K' : Post} {a : Act} {S : WP} (hS : Stable S ∧ ∀ w, S w → St w) (h : ∀ a S, (Stable S ∧ ∀ w, S w → St w) → K a S → K' a S) : ∀ {k : Nat}, Alt P St o K a S k → Alt P St o K' a S k := by
  intro k hh
  unfold Alt at *
  split
  · obtain ⟨N, h1, h2⟩ := hh; exact ⟨N, h1, fun u S' hN => let ⟨a1, a2, a3⟩ := h2 u S' hN; ⟨a1, a2, h _ _ ⟨a1, fun w hw => hS.2 w (a2 w hw)⟩ a3⟩⟩
  · obtain ⟨N, h1, h2⟩ := hh; exact ⟨N, h1, fun u S' hN => let ⟨a1, a2, a3⟩ := h2 u S' hN; ⟨a1, a2, h _ _ ⟨a1, a2⟩ a3⟩⟩
  · rename_i hn1 hn3
    split at hh
    · exact absurd rfl hn1
    · exact absurd rfl hn3
    · obtain ⟨v, h1, h2⟩ := hh; exact ⟨v, h1, h _ _ hS h2⟩
theorem wp_of_gOp {i : Nat} {K : Post} {K' : Act → World → Prop} {Q' : Exit → Act → World → Prop} {a : Act} {S : WP} {w : World} (hS : Stable S) (hC : S w)
    (h : ∀ a S w, Stable S → S w → K a S → K' a w) (hh : gOp P ops St kd i K a S) : wpOp P ops Q' i K' a w := by
  unfold gOp at hh
  unfold wpOp
  split
  · rename_i ho; simp only [ho] at hh; exact h _ _ _ hS hC hh
  · rename_i o ho
    simp only [ho] at hh
    split
    · rename_i hw
      simp only [hw, if_true] at hh
      refine .inl ?_
      unfold Alt at hh
      split at hh
      · obtain ⟨N, h1, h2⟩ := hh
        exact wp_of_atR (h1 w hC) fun v w' ⟨S', hN, hs⟩ => let ⟨a1, _, a3⟩ := h2 v S' hN; h _ _ _ a1 hs a3
      · obtain ⟨N, h1, h2⟩ := hh
        exact wp_of_atR (h1 w hC) fun v w' ⟨S', hN, hs⟩ => let ⟨a1, _, a3⟩ := h2 v S' hN; h _ _ _ a1 hs a3
      · obtain ⟨v, h1, h2⟩ := hh
        exact wp_of_atR (h1 w hC) fun u w' ⟨hu, hb⟩ => by subst hu; exact h _ _ _ hS (hS _ _ hC hb) h2
    · rename_i hw; simp only [hw] at hh; exact h _ _ _ hS hC hh
theorem gOp_mono {i : Nat} {K K' : Post} {a : Act} {S : WP} (hS : Stable S ∧ ∀ w, S w → St w) (h : ∀ a S, (Stable S ∧ ∀ w, S w → St w) → K a S → K' a S) (hh : gOp P ops St kd i K a S) : gOp P ops St kd i K' a S := by
  unfold gOp at *
  split
  · exact h _ _ hS (by simpa [*] using hh)
  · rename_i o ho
    simp only [ho] at hh
    split
    · rename_i hw; simp only [hw, if_true] at hh; exact hh.mono hS h
    · rename_i hw; simp only [hw] at hh; exact h _ _ hS hh
def wpAnyG (P : Program) (md : Region.Mode) (ops : Array Oper) (St : WP) (kd : Nat → Nat) (n : Nat) (L : Array Bool → Post) : Nat → Array Bool → Post
  | 0, listed, a, S => L listed a S
  | f + 1, listed, a, S =>
    Region.ready md ops listed ≠ [] ∧ ∀ i ∈ Region.ready md ops listed, i < n ∧ gOp P ops St kd i (wpAnyG P md ops St kd n L f (listed.setIfInBounds i true)) a S
theorem wpAny_of_G {g : Nat} {L : Array Bool → Post} {Q' : Exit → Act → World → Prop} (hL : ∀ listed a S w, Stable S → S w → L listed a S → wpAny P md ops Q' g listed a w) :
    ∀ (f : Nat) (listed : Array Bool) (a : Act) (S : WP) (w : World), Stable S → S w → wpAnyG P md ops St kd n L f listed a S → wpAny P md ops Q' (f + g) listed a w
  | 0, listed, a, S, w, hS, hC, h => by rw [Nat.zero_add]; exact hL _ _ _ _ hS hC h
  | f + 1, listed, a, S, w, hS, hC, h => by
    rw [show f + 1 + g = (f + g) + 1 by omega]
    exact ⟨fun h0 => absurd h0 h.1, fun i hi => wp_of_gOp hS hC (fun a' S' w' hS' hC' h' => wpAny_of_G hL f _ a' S' w' hS' hC' h') (h.2 i hi).2⟩
def Yld (P : Program) (ops : Array Oper) (St : WP) (pr : Bool) (o : Oper) (v : Value) (a : Act) (S : WP) : Prop :=
  (Region.wanted o (yielded ops a.tmps) = true ∧ ∀ w, (pr = true ∧ St w ∨ pr = false ∧ S w) → at1 P o a w v) ∨
  (Region.wanted o (yielded ops a.tmps) = false ∧ v = undef)
theorem Yld.op {pr : Bool} {i : Nat} {o : Oper} {v : Value} {a : Act} {S : WP} (hS : Stable S ∧ ∀ w, S w → St w) (hk : kd i ≠ 1 ∧ kd i ≠ 3) (hi : ops[i]? = some o) (hy : Yld P ops St pr o v a S) {K : Post} (h : K (a.put o.dst v) S) : gOp P ops St kd i K a S := by
  unfold gOp
  simp only [hi]
  rcases hy with ⟨hw, hv⟩ | ⟨hw, rfl⟩
  · simp only [hw, if_true]
    unfold Alt
    split
    · rename_i e; exact absurd e hk.1
    · rename_i e; exact absurd e hk.2
    · refine ⟨v, fun w hc => hv w ?_, h⟩
      cases pr with
      | true => exact .inl ⟨rfl, hS.2 _ hc⟩
      | false => exact .inr ⟨rfl, hc⟩
  · simp only [hw, Bool.false_eq_true, if_false]; exact h
theorem Yld.same {pr : Bool} {o : Oper} {v : Value} {a a' : Act} {S : WP} (hy : Yld P ops St pr o v a S) (he : execOp a'.eval o = execOp a.eval o)
    (hw : Region.wanted o (yielded ops a'.tmps) = Region.wanted o (yielded ops a.tmps)) (hz : a'.tmps.size = a.tmps.size) : Yld P ops St pr o v a' S := by
  unfold Yld at *
  rw [hw]
  exact hy.imp (fun ⟨h1, h2⟩ => ⟨h1, fun w hc => atR_same hz he (h2 w hc)⟩) id
theorem Yld.less {pr : Bool} {o : Oper} {v : Value} {a : Act} {S S' : WP} (hy : Yld P ops St pr o v a S) (h : pr = true ∨ ∀ w, S' w → S w) : Yld P ops St pr o v a S' :=
  hy.imp (fun ⟨h1, h2⟩ => ⟨h1, fun w hw => h2 w (by
    rcases hw with hw | ⟨e, hw⟩
    · exact .inl hw
    · rcases h with h | h
      · rw [e] at h; cases h
      · exact .inr ⟨e, h _ hw⟩)⟩) id
theorem gOp_put {pr : Bool} {j : Nat} {oi oj : Oper} {v : Value} {S : WP} (hj : ops[j]? = some oj) (hap : oi.apart ops oj = true) (hp : pr = true ∨ kd j ≠ 3)
    (hsi : ∀ cs b, oi.op ≠ .select cs b) (hsj : ∀ cs b, oj.op ≠ .select cs b) {K : Post} {a : Act}
    (hy : Yld P ops St pr oi v a S) (h : gOp P ops St kd j K (a.put oi.dst v) S) :
    gOp P ops St kd j (fun a' S' => Yld P ops St pr oi v a' S' ∧ K (a'.put oi.dst v) S') a S := by
  obtain ⟨h1, h2, h3⟩ := Oper.apart_spec hap
  have keep : ∀ u, Yld P ops St pr oi v (a.put oj.dst u) S := fun u => hy.same (execOp_put oi hsi a oj.dst u h3) (wanted_put oi a oj.dst u h3) (put_size _ _ _)
  have back : ∀ {w : World} {R : Value → World → Prop}, atR P oj (a.put oi.dst v) w R → atR P oj a w R := fun h => atR_same (put_size _ _ _).symm (execOp_put oj hsj a oi.dst v h1).symm h
  unfold gOp at *
  simp only [hj] at *
  rw [wanted_put oj a oi.dst v h1] at h
  split
  · rename_i hw
    simp only [hw, if_true] at h
    unfold Alt at *
    split
    · rename_i e
      simp only [e] at h
      obtain ⟨N, hu, hn⟩ := h
      exact ⟨N, fun w hc => back (hu w hc), fun u S' hN => let ⟨a1, a2, a3⟩ := hn u S' hN; ⟨a1, a2, (keep u).less (.inr a2), by rw [← Act.put_comm a v u h2]; exact a3⟩⟩
    · rename_i e
      simp only [e] at h
      obtain ⟨N, hu, hn⟩ := h
      exact ⟨N, fun w hc => back (hu w hc), fun u S' hN => let ⟨a1, a2, a3⟩ := hn u S' hN; ⟨a1, a2, (keep u).less (.inl (hp.resolve_right (by simp [e]))), by rw [← Act.put_comm a v u h2]; exact a3⟩⟩
    · rename_i e1 e3
      split at h
      · rename_i e; exact absurd e e1
      · rename_i e; exact absurd e e3
      · obtain ⟨u, hu, hn⟩ := h
        exact ⟨u, fun w hc => back (hu w hc), keep u, by rw [← Act.put_comm a v u h2]; exact hn⟩
  · rename_i hw
    simp only [hw] at h
    exact ⟨keep _, by rw [← Act.put_comm a v undef h2]; exact h⟩
theorem wpAnyG_first {pr : Bool} {i : Nat} {oi : Oper} {v : Value} {L : Array Bool → Post} (hi : ops[i]? = some oi) (hk : kd i ≠ 1 ∧ kd i ≠ 3) (hsel : ∀ (j : Nat) (o : Oper) cs b, ops[j]? = some o → o.op ≠ .select cs b)
    (hT : TailW md ops n) (hin : i < n) (hdone : ∀ listed a S, L listed a S → ∀ j ∈ Region.ready md ops listed, n ≤ j) :
    ∀ (f : Nat) (listed : Array Bool) (a : Act) (S : WP), (Stable S ∧ ∀ w, S w → St w) → HeadInv md ops n listed →
      (∀ j oj, ops[j]? = some oj → j ≠ i → listed.getD j true = false → (∀ e ∈ oj.after, Region.binds md e = true → e.on ≠ i) → oi.apart ops oj = true) →
      (pr = true ∨ ∀ j, kd j = 3 → listed.getD j true = false → Upto md ops j i) →
      i ∈ Region.ready md ops listed → Yld P ops St pr oi v a S →
      wpAnyG P md ops St kd n L f (listed.setIfInBounds i true) (a.put oi.dst v) S → wpAnyG P md ops St kd n L (f + 1) listed a S := by
  intro f
  induction f with
  | zero =>
    intro listed a S hS inv _ _ hr hy H
    have hun := (mem_ready.1 hr).1
    refine ⟨fun h => (by rw [h] at hr; cases hr), fun j hj => ?_⟩
    refine ⟨hT _ inv i hin hun j hj, ?_⟩
    by_cases hji : j = i
    · subst hji; exact hy.op hS hk hi H
    · have := hdone _ _ _ H j (ready_mono hj hji)
      have := hT _ inv i hin hun j hj
      omega
  | succ f ih =>
    intro listed a S hS inv hfree hchg hr hy H
    have hun := (mem_ready.1 hr).1
    refine ⟨fun h => (by rw [h] at hr; cases hr), fun j hj => ?_⟩
    have hjn := hT _ inv i hin hun j hj
    refine ⟨hjn, ?_⟩
    by_cases hji : j = i
    · subst hji; exact hy.op hS hk hi H
    · have h1 := (H.2 j (ready_mono hj hji)).2
      obtain ⟨hjun, oj, hoj, hall⟩ := mem_ready.1 hj
      have hnot : ∀ e ∈ oj.after, Region.binds md e = true → e.on ≠ i := fun e he hb heq => by
        have h1 := hall e he hb
        rw [heq, getD_both hun] at h1
        cases h1
      have hp : pr = true ∨ kd j ≠ 3 := by
        rcases hchg with h | h
        · exact .inl h
        · refine .inr fun e => ?_
          have hli := (h j e hjun).listed inv fun oj' hoj' e' he' hb' => by
            have : oj' = oj := Option.some.inj (hoj'.symm.trans hoj)
            subst this
            exact hall e' he' hb'
          rw [getD_both hun] at hli
          cases hli
      have h2 := gOp_put hoj (hfree j oj hoj hji hjun hnot) hp (fun cs b => hsel i oi cs b hi) (fun cs b => hsel j oj cs b hoj) hy h1
      have unl : ∀ {k : Nat}, (listed.setIfInBounds j true).getD k true = false → listed.getD k true = false := fun {k} hun => by
        by_cases hjk : j = k
        · subst hjk; exact hjun
        · rw [getD_set_ne true hjk] at hun; exact hun
      refine gOp_mono hS (fun a' S' hS' h3 => ih (listed.setIfInBounds j true) a' S' hS' (inv.set hj hjn) (fun k ok hk hki hun hno => hfree k ok hk hki (unl hun) hno) (hchg.imp id fun h k hk hun => h k hk (unl hun)) (ready_mono hr (Ne.symm hji)) h3.1 ?_) h2
      rw [Array.setIfInBounds_comm _ _ hji]
      exact h3.2
/-- b is new. -/
def New (S : WP) (b : Nat) : Prop := ∃ w, S w ∧ w.heap.size ≤ b
def With (S : WP) (b : Nat) (c : Array Value) (t : TypeId) : WP := fun w => S w ∧ Blk w b c t
theorem With.stable {S : WP} {b : Nat} {c : Array Value} {t : TypeId} (h : Stable S) : Stable (With S b c t) := fun w w' ⟨h1, h2⟩ hb => ⟨h _ _ h1 hb, h2.grow hb⟩
theorem With.swap (S : WP) (b b2 : Nat) (c c2 : Array Value) (t t2 : TypeId) : With (With S b c t) b2 c2 t2 = With (With S b2 c2 t2) b c t := by
  funext w; exact propext ⟨fun ⟨⟨x, y⟩, z⟩ => ⟨⟨x, z⟩, y⟩, fun ⟨⟨x, y⟩, z⟩ => ⟨⟨x, z⟩, y⟩⟩
theorem with_of_A {S : WP} {o : Oper} {a : Act} {w : World} {mk : Nat → Value} {c : Array Value} {t : TypeId} (hS : Stable S) (hw : S w) (h : atA P o a w mk c t) : atR P o a w fun u w' => ∃ S', (∃ b, New S b ∧ u = mk b ∧ S' = With S b c t) ∧ S' w' :=
  atR_mono h fun v w' ⟨hv, hw'⟩ => ⟨_, ⟨_, ⟨w, hw, Nat.le_refl _⟩, hv, rfl⟩, hS _ _ hw (by rw [hw']; exact World.below_alloc _ _), by rw [hw']; show (w.heap.push _)[w.heap.size]? = _; simp⟩
def wpG (P : Program) (ops : Array Oper) (St : WP) (L : Post) : List Mv → Post
  | [], a, S => L a S
  | .q i :: r, a, S => ∃ o, ops[i]? = some o ∧ ∃ v, Yld P ops St false o v a S ∧ wpG P ops St L r (a.put o.dst v) S
  | .p i :: r, a, S => ∃ o, ops[i]? = some o ∧ ∃ v, Yld P ops St true o v a S ∧ wpG P ops St L r (a.put o.dst v) S
  | .g i :: r, a, S => ∃ o, ops[i]? = some o ∧ ((Region.wanted o (yielded ops a.tmps) = true ∧ Alt P St o (wpG P ops St L r) a S 1) ∨ (Region.wanted o (yielded ops a.tmps) = false ∧ wpG P ops St L r (a.put o.dst undef) S))
  | .c i :: r, a, S => ∃ o, ops[i]? = some o ∧ Region.wanted o (yielded ops a.tmps) = true ∧ Alt P St o (wpG P ops St L r) a S 3
  | .gg i j :: r, a, S => ∃ o1 o2, ops[i]? = some o1 ∧ ops[j]? = some o2 ∧ Region.wanted o1 (yielded ops a.tmps) = true ∧ Region.wanted o2 (yielded ops a.tmps) = true ∧
      ∃ mk1 c1 t1 mk2 c2 t2, (∀ w, S w → atA P o1 a w mk1 c1 t1) ∧ (∀ w, S w → atA P o2 a w mk2 c2 t2) ∧
        ∀ b1 b2, New S b1 → New S b2 → b1 ≠ b2 → wpG P ops St L r ((a.put o1.dst (mk1 b1)).put o2.dst (mk2 b2)) (With (With S b1 c1 t1) b2 c2 t2)
theorem one_ready {L : Array Bool → Post} {f i k : Nat} {o : Oper} {listed : Array Bool} {a : Act} {S : WP} (hr : i ∈ Region.ready md ops listed) (hr' : ∀ j, j ∈ Region.ready md ops listed → j = i) (hin : i < n) (ho : ops[i]? = some o) (hw : Region.wanted o (yielded ops a.tmps) = true) (hk : kd i = k)
    (h : Alt P St o (wpAnyG P md ops St kd n L f (listed.setIfInBounds i true)) a S k) : wpAnyG P md ops St kd n L (f + 1) listed a S := by
  refine ⟨fun e => (by rw [e] at hr; cases hr), fun j hj => ?_⟩
  obtain rfl := hr' j hj
  refine ⟨hin, ?_⟩
  unfold gOp
  simp only [ho, hw, if_true, hk]
  exact h
theorem one_skip {L : Array Bool → Post} {f i : Nat} {o : Oper} {listed : Array Bool} {a : Act} {S : WP} (hr : i ∈ Region.ready md ops listed) (hr' : ∀ j, j ∈ Region.ready md ops listed → j = i) (hin : i < n) (ho : ops[i]? = some o) (hw : Region.wanted o (yielded ops a.tmps) = false)
    (h : wpAnyG P md ops St kd n L f (listed.setIfInBounds i true) (a.put o.dst undef) S) : wpAnyG P md ops St kd n L (f + 1) listed a S := by
  refine ⟨fun e => (by rw [e] at hr; cases hr), fun j hj => ?_⟩
  obtain rfl := hr' j hj
  refine ⟨hin, ?_⟩
  unfold gOp
  simp only [ho, hw, Bool.false_eq_true, if_false]
  exact h
theorem wpAnyG_of_walk {L : Post} {g : Nat} (hsel : Region.noSelect ops = true) (hT : TailW md ops n) :
    ∀ (l : List Mv) (listed : Array Bool) (a : Act) (S : WP), (Stable S ∧ ∀ w, S w → St w) → HeadInv md ops n listed → Order md ops n g kd l listed → wpG P ops St L l a S →
    wpAnyG P md ops St kd n (fun listed' a' S' => Region.seqB md ops g n listed' = true ∧ L a' S') (counts l) listed a S
  | [], listed, a, S, hS, inv, hB, h => ⟨hB, h⟩
  | .q i :: l, listed, a, S, hS, inv, hB, h => by
    obtain ⟨o, ho, v, hy, hK⟩ := h
    obtain ⟨hin, hk, hr, hf, hc, hB'⟩ := hB
    exact wpAnyG_first ho hk (Region.noSelect_spec hsel) hT hin (fun listed' a' S' hL => seqB_ready hL.1) (counts l) listed a S hS inv (hf o ho) (.inr hc) hr hy
      (wpAnyG_of_walk hsel hT l _ _ S hS (inv.set hr hin) hB' hK)
  | .p i :: l, listed, a, S, hS, inv, hB, h => by
    obtain ⟨o, ho, v, hy, hK⟩ := h
    obtain ⟨hin, hk, hr, hf, hB'⟩ := hB
    exact wpAnyG_first ho hk (Region.noSelect_spec hsel) hT hin (fun listed' a' S' hL => seqB_ready hL.1) (counts l) listed a S hS inv (hf o ho) (.inl rfl) hr hy
      (wpAnyG_of_walk hsel hT l _ _ S hS (inv.set hr hin) hB' hK)
  | .g i :: l, listed, a, S, hS, inv, hB, h => by
    obtain ⟨o, ho, ⟨hw, h1⟩ | ⟨hw, h1⟩⟩ := h
    · obtain ⟨hin, hk, hr, hr', hB'⟩ := hB
      exact one_ready hr hr' hin ho hw hk (h1.mono hS fun a' S' hS' h' => wpAnyG_of_walk hsel hT l _ a' S' hS' (inv.set hr hin) hB' h')
    · obtain ⟨hin, hk, hr, hr', hB'⟩ := hB
      exact one_skip hr hr' hin ho hw (wpAnyG_of_walk hsel hT l _ _ S hS (inv.set hr hin) hB' h1)
  | .c i :: l, listed, a, S, hS, inv, hB, h => by
    obtain ⟨o, ho, hw, h1⟩ := h
    obtain ⟨hin, hk, hr, hr', hB'⟩ := hB
    exact one_ready hr hr' hin ho hw hk (h1.mono hS fun a' S' hS' h' => wpAnyG_of_walk hsel hT l _ a' S' hS' (inv.set hr hin) hB' h')
  | .gg i j :: l, listed, a, S, hS, inv, hB, h => by
    obtain ⟨o1, o2, ho1, ho2, hw1, hw2, mk1, c1, t1, mk2, c2, t2, h1, h2, hK⟩ := h
    obtain ⟨hin, hjn, hki, hkj, hij, hi', hj', hr, hri, hrj, hap, hB'⟩ := hB
    obtain ⟨p1, p2, p3⟩ := Oper.apart_spec (hap o1 o2 ho1 ho2)
    have hji : j ∈ Region.ready md ops (listed.setIfInBounds i true) := ready_mono hj' (Ne.symm hij)
    have hij' : i ∈ Region.ready md ops (listed.setIfInBounds j true) := ready_mono hi' hij
    have s1 : ∀ cs b, o1.op ≠ .select cs b := fun cs b => Region.noSelect_spec hsel i o1 cs b ho1
    have s2 : ∀ cs b, o2.op ≠ .select cs b := fun cs b => Region.noSelect_spec hsel j o2 cs b ho2
    have fin : ∀ b1 b2, New S b1 → New S b2 → b1 ≠ b2 →
        wpAnyG P md ops St kd n (fun listed' a' S' => Region.seqB md ops g n listed' = true ∧ L a' S') (counts l) ((listed.setIfInBounds i true).setIfInBounds j true) ((a.put o1.dst (mk1 b1)).put o2.dst (mk2 b2)) (With (With S b1 c1 t1) b2 c2 t2) :=
      fun b1 b2 x1 x2 x3 => wpAnyG_of_walk hsel hT l _ _ _ ⟨With.stable (With.stable hS.1), fun w hw => hS.2 w hw.1.1⟩ ((inv.set hi' hin).set hji hjn) hB' (hK b1 b2 x1 x2 x3)
    show wpAnyG P md ops St kd n _ (counts l + 1 + 1) listed a S
    refine ⟨fun e => (by rw [e] at hi'; cases hi'), fun k hk => ?_⟩
    rcases hr k hk with rfl | rfl
    · refine ⟨hin, ?_⟩
      unfold gOp
      simp only [ho1, hw1, if_true, hki]
      refine ⟨_, fun w hc => with_of_A hS.1 hc (h1 w hc), fun v S1 ⟨b1, x1, e1, e2⟩ => ?_⟩
      subst e1; subst e2
      refine ⟨With.stable hS.1, fun w hw => hw.1, ?_⟩
      refine one_ready hji hri hjn ho2 (by rw [wanted_put o2 a o1.dst _ p1]; exact hw2) hkj ?_
      refine ⟨_, fun w hc => with_of_A (With.stable hS.1) hc (atR_same (put_size _ _ _) (execOp_put o2 s2 a o1.dst _ p1) (h2 w hc.1)), fun v S2 ⟨b2, ⟨w2, x2, x2'⟩, e1, e2⟩ => ?_⟩
      subst e1; subst e2
      exact ⟨With.stable (With.stable hS.1), fun w hw => hw.1, fin b1 b2 x1 ⟨w2, x2.1, x2'⟩ (by have := x2.2.lt; omega)⟩
    · refine ⟨hjn, ?_⟩
      unfold gOp
      simp only [ho2, hw2, if_true, hkj]
      refine ⟨_, fun w hc => with_of_A hS.1 hc (h2 w hc), fun v S1 ⟨b2, x2, e1, e2⟩ => ?_⟩
      subst e1; subst e2
      refine ⟨With.stable hS.1, fun w hw => hw.1, ?_⟩
      refine one_ready hij' hrj hin ho1 (by rw [wanted_put o1 a o2.dst _ p3]; exact hw1) hki ?_
      refine ⟨_, fun w hc => with_of_A (With.stable hS.1) hc (atR_same (put_size _ _ _) (execOp_put o1 s1 a o2.dst _ p3) (h1 w hc.1)), fun v S2 ⟨b1, ⟨w1, x1, x1'⟩, e1, e2⟩ => ?_⟩
      subst e1; subst e2
      refine ⟨With.stable (With.stable hS.1), fun w hw => hw.1, ?_⟩
      rw [With.swap, ← Act.put_comm a (mk1 b1) (mk2 b2) p2, Array.setIfInBounds_comm _ _ (Ne.symm hij)]
      exact fin b1 b2 ⟨w1, x1.1, x1'⟩ x2 (by have := x1.2.lt; omega)
theorem wpAny_region_grow {Q : Exit → Act → World → Prop} {a : Act} {w : World} {l : List Oper} (n C G : Nat) (T0 : List Row4) (ord : List (Mv × Nat)) (tl : List (Nat × Nat)) (St S : WP) (hSt : ∀ w, S w → St w) (hSS : Stable S) (hB : regionB .any l n C G T0 ord tl = true)
    (hO : S w.drew)
    (h : wpG P l.toArray St (fun a' S' => ∀ w', Stable S' → S' w' → wpList P l.toArray Q (l.drop n) a' w') (ord.map (·.1)) a S) : wpAny P .any l.toArray Q l.toArray.size (Array.replicate l.toArray.size false) a w.drew := by
  simp only [regionB, Bool.and_eq_true] at hB
  obtain ⟨⟨⟨⟨⟨ht, hsel⟩, hT⟩, hlen⟩, hn⟩, hord⟩ := hB
  have hlen := Nat.eq_of_beq_eq_true hlen
  have hn := Nat.le_of_ble_eq_true hn
  have hdl : (l.drop n).length = l.length - n := by simp
  have inv0 : HeadInv .any l.toArray n (Array.replicate l.toArray.size false) :=
    ⟨by simp, fun j oj _ hl => (by rw [getD_replicate_false] at hl; cases hl), fun t _ ht => getD_in (by simpa using ht) (getD_replicate_false _ _)⟩
  have hL0 : Lst l.toArray 0 (Array.replicate l.toArray.size false) := ⟨by simp, fun j => by rw [getD_replicate_false]; simp⟩
  have HH := wpAnyG_of_walk (md := .any) hsel (tail_spec ht hT) (ord.map (·.1)) _ a _ ⟨hSS, hSt⟩ inv0 (order_spec ht ord 0 _ hL0 hord) h
  have := wpAny_of_G (Q' := Q) (g := l.length - n) (fun listed a' S w' hS hC hL => by
    have := wpAny_of_seq (md := .any) (Q' := Q) (l.drop n) n listed a' w' (fun j => by simp [List.getElem?_drop]) (by rw [hdl]; exact hL.1) (hL.2 w' hS hC)
    rwa [hdl] at this) _ _ _ _ _ hSS hO HH
  rw [hlen, show n + (l.length - n) = l.toArray.size by simp; omega] at this
  exact this
theorem wp_region_grow {id : Nat} {Q : Exit → Act → World → Prop} {a : Act} {w : World} {l : List Oper} (n C G : Nat) (T0 : List Row4) (ord : List (Mv × Nat)) (tl : List (Nat × Nat)) (St S : WP) (hSt : ∀ w, S w → St w) (hSS : Stable S) (hm : P.follows .mixedOrders = true) (hB : regionB .any l n C G T0 ord tl = true)
    (hO : S w.drew)
    (h : wpG P l.toArray St (fun a' S' => ∀ w', Stable S' → S' w' → wpList P l.toArray Q (l.drop n) a' w') (ord.map (·.1)) a S) : (Code.region id l.toArray true).wp P Q a w :=
  wp_region_any hm (wpAny_region_grow n C G T0 ord tl St S hSt hSS hB hO h)
end
end Fw
end Go.Proofs.Ytcfomhnfhalmaaa
end

section
set_option linter.unusedVariables false
set_option linter.unusedSimpArgs false
namespace Go.Proofs.Ytcfomhnfhalmaaa
open Go.RowKit

theorem eq_loop {P : Program} {len : Nat} {same : Nat → Bool} {B : Nat → Option Bool × Unit → Sem (ForInStep (Option Bool × Unit))}
    (hB : ∀ i s W, i < len → (B i s).run P W = .ok (if same i then .yield (none, ()) else .done (some false, ())) W) (w : World) :
    ∀ m i, i + m = len → (forIn (List.range' i m) ((none : Option Bool), ()) B).run P w = .ok (if (List.range' i m).all same then (none, ()) else (some false, ())) w
  | 0, i, h => by simp
  | m + 1, i, h => by
    rw [List.range'_succ, List.forIn_cons, List.all_cons]
    simp only [Sem.run_bind, hB i _ w (by omega), Result.andThen_ok]
    cases hs : same i
    · simp
    · simp only [if_true, Bool.true_and]
      exact eq_loop hB w m (i + 1) (by omega)
end Go.Proofs.Ytcfomhnfhalmaaa
end
