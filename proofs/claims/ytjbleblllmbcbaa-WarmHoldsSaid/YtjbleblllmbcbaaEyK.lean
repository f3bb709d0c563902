/- Whole functions on values whose shape is known do what the machine does. No program of its own. No condition. -/
import Derived.Test.YtjbleblllmbcbaaEyJ
set_option linter.unusedVariables false
set_option linter.unusedSimpArgs false
namespace Go.Proofs.Ytjbleblllmbcbaa
open Go.RowKit
variable {D : List Deferred} {R : Rws}

def resM (tmps : Array Value) : ResultVar → Sem Value
  | .tmp t => pure (tmps.getD t undef)
  | .cell a t => do loadVar t (← asAddr (tmps.getD a undef))
theorem asAddr_ptr (a : Addr) : asAddr (.pointer (some a)) = pure a := rfl
theorem res_sound {P : Program} (hRw : RwOK R) {H : Mem} {Hr : List RBlk} {ρ : Nums} {tl : List AV} {tv : List Value} (ht : RelL R ρ tl tv) (hB : RelB R ρ H Hr) (hρ : ρ = nums Hr) : ∀ {rs : List ResultVar} {vs : List AV}, resA P R H tl rs = some vs →
    ∃ Vs : List Value, RelL R ρ vs Vs ∧ ∀ w, OwnK R H Hr w → (rs.mapM (resM tv.toArray)).run P w = .ok Vs w
  | [], vs, h => by
    simp [resA] at h; subst h
    exact ⟨[], .nil, fun w _ => rfl⟩
  | .tmp t :: r, vs, h => by
    unfold resA at h
    split at h
    · rename_i v vs' h1 h2
      cases h
      obtain ⟨V, e1, e2⟩ := ht.get h1
      obtain ⟨Vs, e3, e4⟩ := res_sound hRw ht hB hρ h2
      refine ⟨V :: Vs, .cons e2 e3, fun w hO => ?_⟩
      simp only [List.mapM_cons, resM, Sem.run_bind, Sem.run_pure, Result.andThen_ok, e4 w hO]
      simp [e1]
    · cases h
  | .cell a t :: r, vs, h => by
    unfold resA at h
    split at h
    · rename_i v vs' h1 h2
      cases h
      obtain ⟨Vs, e3, e4⟩ := res_sound hRw ht hB hρ h2
      rw [Option.bind_eq_some_iff] at h1
      obtain ⟨p, hp, hl⟩ := h1
      obtain ⟨V0, e1, e2⟩ := ht.get hp
      unfold loadA at hl
      split at hl
      rotate_left
      · rename_i j i o
        split at hl
        · rename_i r hr
          generalize V0 = pv at e1 e2
          cases e2 with | rptr hj ha hi =>
          rename_i b0 off0
          rw [hr] at hj; cases hj
          obtain ⟨m, rfl⟩ := Int.eq_ofNat_of_zero_le hi.1
          have hm : m < r.n := by have := hi.2; omega
          obtain ⟨V, e7, e8⟩ := load_row (P := P) hl (RelL.of_vals (ρ := ρ) (hRw.vals j r hr m hm))
          refine ⟨V :: Vs, .cons e7 e3, fun w hO => ?_⟩
          obtain ⟨_, _, hcell⟩ := hO.2 j r hr _ _ ha (by omega)
          have h9 := e8 w _ _ (hcell m hm)
          simp only [List.mapM_cons, resM, Sem.run_bind, Sem.run_pure, Result.andThen_ok, e4 w hO]
          have h10 : (tv.toArray.getD a undef) = .pointer (some ⟨b0, off0 + m * r.s + o, none⟩) := by simp [e1]
          rw [h10]
          simp only [asAddr_ptr, Sem.run_pure, Result.andThen_ok, h9, e4 w hO]
        · cases hl
      · cases hl
      · rename_i l o
        split at hl
        · rename_i cs ty hH
          obtain ⟨b, s0, Cs, e5, e6⟩ := hB.get hH
          generalize V0 = pv at e1 e2
          cases e2 with | ptr hb' =>
          rw [hρ, nums_get e5] at hb'
          obtain rfl := Option.some.inj hb'
          obtain ⟨V, e7, e8⟩ := load_sound (P := P) hl e6
          refine ⟨V :: Vs, .cons e7 e3, fun w hO => ?_⟩
          have hblk : Blk w b Cs.toArray ty := (hO.1 _ _ _ hH e5).2 rfl
          simp only [List.mapM_cons, resM, Sem.run_bind, Sem.run_pure, Result.andThen_ok, e4 w hO]
          have : (tv.toArray.getD a undef) = .pointer (some ⟨b, o, none⟩) := by simp [e1, RBlk.num]
          rw [this]
          simp only [asAddr_ptr, Sem.run_pure, Result.andThen_ok, e8 w b ty hblk, e4 w hO]
        · cases hl
    · cases h
theorem one_rel {ρ : Nums} {vs : List AV} {Vs : List Value} (h : RelL R ρ vs Vs) : Rel R ρ (oneA vs) (if h : Vs.toArray.size = 1 then Vs.toArray[0] else .tuple Vs.toArray) := by
  cases h with
  | nil => exact .tuple .nil
  | cons h hs => cases hs with
    | nil => exact h
    | cons h' hs => exact .tuple (.cons h (.cons h' hs))
theorem results_sound {P : Program} (hRw : RwOK R) {fn : Func} {st : ASt} {a : Act} {Hr : List RBlk} {vs : List AV} (hR : RelSt R D st a Hr) (h : resA P R st.m.H st.tl fn.results.toList = some vs) :
    ∃ V, Rel R (nums Hr) (oneA vs) V ∧ ∀ w, OwnK R st.m.H Hr w → (results fn a.tmps).run P w = .ok V w := by
  obtain ⟨tv, rfl, ht, hB, hn⟩ := hR
  obtain ⟨Vs, h1, h2⟩ := res_sound hRw ht hB rfl h
  refine ⟨_, one_rel h1, fun w hO => ?_⟩
  have h3 := h2 w hO
  have e : results fn tv.toArray = (do let vs ← fn.results.mapM (resM tv.toArray); pure (if h : vs.size = 1 then vs[0] else .tuple vs)) := rfl
  rw [e, ← Array.toArray_toList (xs := fn.results)]
  rw [List.mapM_toArray]
  simp only [Sem.run_bind, map_eq_pure_bind, h3, Sem.run_pure, Result.andThen_ok]

def AExit.real : AExit → Exit
  | .normal => .normal
  | .exit i => .exit i
  | .goto l => .goto l
  | .ret => .ret
def Rch (R : Rws) (D : List Deferred) (e : AExit) (st' : ASt) (lo : Nat → Bool) (Hr : List RBlk) (w : World) : Exit → Act → World → Prop := fun e' a' w' => e' = e.real ∧ ∃ Hr', RelSt R D st' a' Hr' ∧ OwnK R st'.m.H Hr' w' ∧ Stp lo Hr w Hr' w'
theorem Rch.over {e : AExit} {st' : ASt} {lo : Nat → Bool} {Hr Hr1 : List RBlk} {w w1 : World} (hS : Stp lo Hr w Hr1 w1) {e2 : Exit} {a2 : Act} {w2 : World} (h : Rch R D e st' lo Hr1 w1 e2 a2 w2) : Rch R D e st' lo Hr w e2 a2 w2 := by
  obtain ⟨he, Hr', h1, h2, h3⟩ := h
  exact ⟨he, Hr', h1, h2, hS.trans h3⟩
def TaskWp (P : Program) (Q : Exit → Act → World → Prop) : Task → Act → World → Prop
  | .code c, a, w => c.wp P Q a w
  | .inS c0 c, a, w => ∀ (b : Frame) (k : List Item) (cs : List Frame), ∃ e a' w', Q e a' w' ∧ Arrives P (lone (b.at a (.code c :: .inScope c0 :: k)) cs w) b k cs e a' w'
  | .inL c, a, w => ∀ (b : Frame) (k : List Item) (cs : List Frame), ∃ e a' w', Q e a' w' ∧ Arrives P (lone (b.at a (.inLoop c :: k)) cs w) b k cs e a' w'
/-- What is said of what is carried out. -/
def EvOK (E : Env) (ev : Task → ASt → (AExit → ASt → Prop) → Prop) : Prop := ∀ t st K, ev t st K → ∃ e st', K e st' ∧ st'.m.wr = st.m.wr ∧ ∀ {D : List Deferred} a Hr w, RelSt E.rows D st a Hr → OwnK E.rows st.m.H Hr w → TaskWp E.P (Rch E.rows D e st' st.m.wr Hr w) t a w

theorem call_ok {E : Env} (hE : EnvOK E) {ev : Task → ASt → (AExit → ASt → Prop) → Prop} (h : EvOK E ev) : CallOK E (callWith E ev) := by
  intro f args m K hc
  unfold callWith at hc
  split at hc
  · rename_i fn hf
    split at hc
    · rename_i c hb
      cases hn : (fn.name == "runtime.NumGoroutine") <;> simp only [hn, cond_true, cond_false] at hc
      obtain ⟨e, st', hk, hlo, hs⟩ := h _ _ _ hc
      have key : ∀ vs, resA E.P E.rows st'.m.H st'.tl fn.results.toList = some vs → (e = .normal ∨ e = .ret) → ∀ Hr w Args, RelL E.rows (nums Hr) args Args → RelB E.rows (nums Hr) m.H Hr → Apart m.H Hr → OwnK E.rows m.H Hr w →
          Calls E.P f Args.toArray w fun e w' => ∃ V Hr', e = .returned V ∧ Rel E.rows (nums Hr') (oneA vs) V ∧ RelB E.rows (nums Hr') st'.m.H Hr' ∧ Apart st'.m.H Hr' ∧ OwnK E.rows st'.m.H Hr' w' ∧ Stp m.wr Hr w Hr' w' := by
        intro vs hvs he Hr w Args ha hB hnd hO
        have hR : RelSt E.rows [] ⟨args ++ List.replicate (fn.ntmps - args.length) undefA, m⟩ ⟨Args.toArray ++ Array.replicate (fn.ntmps - Args.toArray.size) undef, []⟩ Hr := by
          refine ⟨Args ++ List.replicate (fn.ntmps - args.length) undef, ?_, ha.append (RelL.rep .raw _), hB, hnd⟩
          congr 1
          apply Array.toList_inj.1
          simp [ha.len]
        refine calls_of_wp hf hb (wp_mono (hs _ Hr w hR hO) ?_)
        rintro e' a' w' ⟨rfl, Hr', hR', hO', hS⟩
        have hd : a'.defers = [] := by obtain ⟨tv, rfl, _⟩ := hR'; rfl
        obtain ⟨V, hv, hr⟩ := results_sound hE.rows hR' hvs
        have hR2 := hR'
        obtain ⟨tv, _, _, hB', hn'⟩ := hR2
        rcases he with rfl | rfl <;> exact ⟨hd, V, hr w' hO', V, Hr', rfl, hv, hB', hn', hO', hS⟩
      have hen := enters_of hf hn hb
      cases e <;> simp only at hk
      case normal =>
        split at hk
        · rename_i vs hvs
          exact ⟨_, _, hk, hlo, hen, key vs hvs (.inl rfl)⟩
        · exact hk.elim
      case ret =>
        split at hk
        · rename_i vs hvs
          exact ⟨_, _, hk, hlo, hen, key vs hvs (.inr rfl)⟩
        · exact hk.elim
    · exact hc.elim
  · exact hc.elim

theorem cond_bool {st : ASt} {a : Act} {Hr : List RBlk} (hR : RelSt R D st a Hr) {c : Operand} {l z : Bool} (h : evO st.tl c = some (.bool l z)) : a.eval c = .bool z := by
  obtain ⟨tv, rfl, ht, _, _⟩ := hR
  exact (evO_sound (D := D) ht _ _ h).bool_inv

theorem refine_sound {st : ASt} {a : Act} {Hr : List RBlk} (hR : RelSt R D st a Hr) {c : Operand} {z : Bool} (h : evO st.tl c = some (.bool false z)) {ds : List Bool} : RelSt R D ⟨refineA st.tl c z, ⟨st.m.H, ds, st.m.wr⟩⟩ a Hr := by
  obtain ⟨tv, rfl, ht, hB, hn⟩ := hR
  unfold refineA
  split
  · rename_i t
    have h : st.tl[t]? = some (.bool false z) := h
    obtain ⟨V, h1, h2⟩ := ht.get h
    obtain rfl := h2.bool_inv
    exact ⟨tv, rfl, ht.setSame h1 .bool, hB, hn⟩
  · exact ⟨tv, rfl, ht, hB, hn⟩
theorem ev_sound {E : Env} (hE : EnvOK E) : ∀ n, EvOK E (evT E n)
  | 0 => fun t st K h => by cases t <;> exact h.elim
  | n + 1 => by
    have ih := ev_sound hE n
    have hC := call_ok hE ih
    intro t st K h
    cases t with
    | inS c0 c =>
      simp only [evT] at h
      obtain ⟨e1, st1, h1, hlo1, h2⟩ := ih _ _ _ h
      cases e1 <;> simp only at h1
      case goto l =>
        split at h1
        · rename_i rest hf
          obtain ⟨e, st', hk, hlo, hs⟩ := ih _ _ _ h1
          refine ⟨e, st', hk, hlo.trans hlo1, fun a Hr w hR hO b k cs => ?_⟩
          obtain ⟨e', a1, w1, ⟨rfl, Hr1, hR1, hO1, hS1⟩, harr⟩ := h2 a Hr w hR hO b (.inScope c0 :: k) cs
          obtain ⟨e2, a2, w2, hq, harr2⟩ := hs a1 Hr1 w1 hR1 hO1 b k cs
          rw [hlo1] at hq
          exact ⟨e2, a2, w2, hq.over hS1, .of_steps (harr _ (by simp [gotoIn, hf])) harr2⟩
        · exact h1.elim
      all_goals
        refine ⟨_, st1, h1, hlo1, fun a Hr w hR hO b k cs => ?_⟩
        obtain ⟨e', a1, w1, ⟨rfl, hq⟩, harr⟩ := h2 a Hr w hR hO b (.inScope c0 :: k) cs
        refine ⟨_, a1, w1, ⟨rfl, hq⟩, ?_⟩
      · exact Steps.trans harr (.one step_inScope)
      · exact fun k' hk => harr k' (by simp [exitTo, hk])
      · exact harr
    | inL c =>
      simp only [evT] at h
      obtain ⟨e1, st1, h1, hlo1, h2⟩ := ih _ _ _ h
      cases e1 <;> simp only at h1
      case normal =>
        obtain ⟨e, st', hk, hlo, hs⟩ := ih _ _ _ h1
        refine ⟨e, st', hk, hlo.trans hlo1, fun a Hr w hR hO b k cs => ?_⟩
        obtain ⟨e', a1, w1, ⟨rfl, Hr1, hR1, hO1, hS1⟩, harr⟩ := h2 a Hr w hR hO b (.inLoop c :: k) cs
        obtain ⟨e2, a2, w2, hq, harr2⟩ := hs a1 Hr1 w1 hR1 hO1 b k cs
        rw [hlo1] at hq
        exact ⟨e2, a2, w2, hq.over hS1, .of_steps (.head step_inLoop harr) harr2⟩
      all_goals
        refine ⟨_, st1, h1, hlo1, fun a Hr w hR hO b k cs => ?_⟩
        obtain ⟨e', a1, w1, ⟨rfl, hq⟩, harr⟩ := h2 a Hr w hR hO b (.inLoop c :: k) cs
        exact ⟨_, a1, w1, ⟨rfl, hq⟩, .of_steps (.one step_inLoop) (.pass (x := .inLoop c) rfl (fun _ _ => .inl (by simp [AExit.real])) harr)⟩
    | code c =>
      cases c with
      | skip => exact ⟨.normal, st, h, rfl, fun a Hr w hR hO => wp_skip ⟨rfl, Hr, hR, hO, .refl _ _ _⟩⟩
      | exit id => exact ⟨.exit id, st, h, rfl, fun a Hr w hR hO => wp_exit ⟨rfl, Hr, hR, hO, .refl _ _ _⟩⟩
      | goto l => exact ⟨.goto l, st, h, rfl, fun a Hr w hR hO => wp_goto ⟨rfl, Hr, hR, hO, .refl _ _ _⟩⟩
      | label l => exact ⟨.normal, st, h, rfl, fun a Hr w hR hO => wp_label ⟨rfl, Hr, hR, hO, .refl _ _ _⟩⟩
      | ret => exact ⟨.ret, st, h, rfl, fun a Hr w hR hO => wp_ret ⟨rfl, Hr, hR, hO, .refl _ _ _⟩⟩
      | region id ops d =>
        cases d with
        | false =>
          simp only [evT] at h
          obtain ⟨st', hk, hlo, hs⟩ := list_sound hE hC _ _ _ _ h
          refine ⟨.normal, st', hk, hlo, fun a Hr w hR hO => wp_region_list ?_⟩
          have := hs a Hr w hR hO (Rch _ _ .normal st' st.m.wr Hr w) fun a' Hr' w' hR' hO' hS => ⟨rfl, Hr', hR', hO', hS⟩
          rwa [Array.toArray_toList] at this
        | true =>
          simp only [evT] at h
          obtain ⟨st', hk, hlo, hs⟩ := drawn_sound hE hC (id := id) h
          refine ⟨.normal, st', hk, hlo, fun a Hr w hR hO => ?_⟩
          have := hs a Hr w hR hO (Rch _ _ .normal st' st.m.wr Hr w) fun a' Hr' w' hR' hO' hS => ⟨rfl, Hr', hR', hO', hS⟩
          rwa [Array.toArray_toList] at this
      | seq x y =>
        simp only [evT] at h
        obtain ⟨e1, st1, h1, hlo1, h2⟩ := ih _ _ _ h
        cases e1 <;> simp only at h1
        case normal =>
          obtain ⟨e, st', hk, hlo, hs⟩ := ih _ _ _ h1
          refine ⟨e, st', hk, hlo.trans hlo1, fun a Hr w hR hO => wp_seq (wp_mono (h2 a Hr w hR hO) ?_)⟩
          rintro e' a1 w1 ⟨rfl, Hr1, hR1, hO1, hS1⟩
          refine wp_mono (hs a1 Hr1 w1 hR1 hO1) fun e2 a2 w2 hq => ?_
          rw [hlo1] at hq
          exact hq.over hS1
        all_goals
          refine ⟨_, st1, h1, hlo1, fun a Hr w hR hO => wp_seq (wp_mono (h2 a Hr w hR hO) ?_)⟩
          rintro e' a1 w1 ⟨rfl, hq⟩
          exact ⟨rfl, hq⟩
      | cond c x y =>
        simp only [evT] at h
        split at h
        · rename_i z hc
          cases z <;> simp only [cond_true, cond_false] at h
          all_goals
            obtain ⟨e, st', hk, hlo, hs⟩ := ih _ _ _ h
            exact ⟨e, st', hk, hlo, fun a Hr w hR hO => wp_cond (cond_bool hR hc) (hs a Hr w hR hO)⟩
        · rename_i z hc
          split at h
          · rename_i d ds hds
            obtain ⟨rfl, h⟩ := h
            cases z <;> simp only [cond_true, cond_false] at h
            all_goals
              obtain ⟨e, st', hk, hlo, hs⟩ := ih _ _ _ h
              exact ⟨e, st', hk, hlo, fun a Hr w hR hO => wp_cond (cond_bool hR hc) (hs a Hr w (refine_sound hR hc) hO)⟩
          · exact h.elim
        · exact h.elim
      | block id c =>
        simp only [evT] at h
        obtain ⟨e1, st1, h1, hlo1, h2⟩ := ih _ _ _ h
        cases e1 <;> simp only at h1
        case exit j =>
          cases hj : Nat.beq j id <;> simp only [hj, cond_true, cond_false] at h1
          · refine ⟨.exit j, st1, h1, hlo1, fun a Hr w hR hO => wp_block (wp_mono (h2 a Hr w hR hO) ?_)⟩
            rintro e' a1 w1 ⟨rfl, hq⟩
            have : j ≠ id := Nat.ne_of_beq_eq_false hj
            simp only [AExit.real, Exit.inBlock, if_neg this]
            exact ⟨rfl, hq⟩
          · refine ⟨.normal, st1, h1, hlo1, fun a Hr w hR hO => wp_block (wp_mono (h2 a Hr w hR hO) ?_)⟩
            rintro e' a1 w1 ⟨rfl, hq⟩
            have := Nat.eq_of_beq_eq_true hj
            simp only [AExit.real, Exit.inBlock, if_pos this]
            exact ⟨rfl, hq⟩
        all_goals
          refine ⟨_, st1, h1, hlo1, fun a Hr w hR hO => wp_block (wp_mono (h2 a Hr w hR hO) ?_)⟩
          rintro e' a1 w1 ⟨rfl, hq⟩
          exact ⟨rfl, hq⟩
      | loop c =>
        simp only [evT] at h
        obtain ⟨e1, st1, h1, hlo1, h2⟩ := ih _ _ _ h
        cases e1 <;> simp only at h1
        case normal =>
          obtain ⟨e, st', hk, hlo, hs⟩ := ih _ _ _ h1
          refine ⟨e, st', hk, hlo.trans hlo1, fun a Hr w hR hO b k cs => ?_⟩
          obtain ⟨e', a1, w1, ⟨rfl, Hr1, hR1, hO1, hS1⟩, harr⟩ := h2 a Hr w hR hO b (.inLoop c :: k) cs
          obtain ⟨e2, a2, w2, hq, harr2⟩ := hs a1 Hr1 w1 hR1 hO1 b k cs
          rw [hlo1] at hq
          exact ⟨e2, a2, w2, hq.over hS1, .of_steps (.head step_loop harr) harr2⟩
        all_goals
          refine ⟨_, st1, h1, hlo1, fun a Hr w hR hO b k cs => ?_⟩
          obtain ⟨e', a1, w1, ⟨rfl, hq⟩, harr⟩ := h2 a Hr w hR hO b (.inLoop c :: k) cs
          exact ⟨_, a1, w1, ⟨rfl, hq⟩, .of_steps (.one step_loop) (.pass (x := .inLoop c) rfl (fun _ _ => .inl (by simp [AExit.real])) harr)⟩
      | scope c =>
        simp only [evT] at h
        obtain ⟨e, st', hk, hlo, hs⟩ := ih _ _ _ h
        refine ⟨e, st', hk, hlo, fun a Hr w hR hO b k cs => ?_⟩
        obtain ⟨e', a1, w1, hq, harr⟩ := hs a Hr w hR hO b k cs
        exact ⟨e', a1, w1, hq, .of_steps (.one step_scope) harr⟩
      | _ => exact h.elim

/-- THE LAW: what is carried out on values is what the machine answers; what lay there is not changed. -/
theorem ev_calls_rd {E : Env} (hE : EnvOK E) (n : Nat) {f : FuncId} {args : List AV} {r : AV} {V : Value} {ds : List Bool} {wr : Nat → Bool} (h : evCall E n f args ⟨[], ds, wr⟩ (fun v _ => v = r)) (hV : r.told? = some V) {Args : List Value} (ha : RelL E.rows [] args Args) (w : World) (hd : Rd E.rows [] w) :
    Calls E.P f Args.toArray w fun e w' => e = .returned V ∧ Below w.heap.size w w' := by
  obtain ⟨v, m', rfl, hlo, hen, hc⟩ := call_ok hE (ev_sound hE n) f args _ _ h
  refine (hc [] w Args ha .nil Apart.nil ⟨OwnM.nil _, hd⟩).mono ?_
  rintro e w' ⟨V', Hr', rfl, hr, _, _, _, hS⟩
  refine ⟨by rw [hr.told hV], hS.os, hS.tape, hS.output, hS.size, fun k hk => hS.block k hk (by simp [nums])⟩
def noRows : Rws := fun _ => none
theorem rd_no (nb : List Nat) (w : World) : Rd noRows nb w := fun j r h => by cases h
theorem rwOK_no : RwOK noRows := ⟨fun j r h => (by cases h), fun j r h => (by cases h), fun j r h => (by cases h), fun j r h => (by cases h), fun j r h => (by cases h)⟩
theorem ev_calls {E : Env} (hE : EnvOK E) (n : Nat) {f : FuncId} {args : List AV} {r : AV} {V : Value} {ds : List Bool} {wr : Nat → Bool} (h : evCall E n f args ⟨[], ds, wr⟩ (fun v _ => v = r)) (hV : r.told? = some V) {Args : List Value} (ha : RelL E.rows [] args Args) (hr : E.rows = noRows) (w : World) :
    Calls E.P f Args.toArray w fun e w' => e = .returned V ∧ Below w.heap.size w w' := ev_calls_rd hE n h hV ha w (by rw [hr]; exact rd_no _ _)
theorem ev_enters {E : Env} (hE : EnvOK E) (n : Nat) {f : FuncId} {args : List AV} {K : AV → AM → Prop} {m : AM} (h : evCall E n f args m K) : Enters E.P f := by
  obtain ⟨v, m', _, _, hen, _⟩ := call_ok hE (ev_sound hE n) f args _ _ h
  exact hen
end Go.Proofs.Ytjbleblllmbcbaa
