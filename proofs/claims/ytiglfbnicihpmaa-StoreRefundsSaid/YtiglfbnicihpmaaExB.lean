/- Words, contracts, laws and ranges by the evaluator. No program of its own. No condition. -/
import Derived.Test.YtiglfbnicihpmaaExA
import Derived.Test.YtiglfbnicihpmaaRngB
import Derived.Test.YtiglfbnicihpmaaArrEq
import Derived.Test.YtiglfbnicihpmaaWords
set_option linter.unusedVariables false
set_option linter.unusedSimpArgs false
namespace Go.Proofs.Ytiglfbnicihpmaa
open Go.RowKit

section
variable {D : List Deferred} {R : Rws}
def inB : Code → Bool
  | .skip | .exit _ | .goto _ | .label _ | .ret => true
  | .region _ ops _ => noDefer ops.toList
  | .seq a b => inB a && inB b
  | .cond _ a b => inB a && inB b
  | .block _ c => inB c
  | _ => false
section
variable {E : Env} (hE : EnvOK E) {call : CallF} (hC : CallOK E call)
include hE hC
/-- A region that draws its order. -/
theorem drawn_in (lr : Nat) {id : Nat} {l : List Oper} {st : ASt} {K : ASt → Prop} (hd : noDefer l = true) (h : drawnP E call l st K) : ∃ st', K st' ∧ st'.m.wr = st.m.wr ∧ ∀ {D : List Deferred} a Hr w, RelSt E.rows D st a Hr → OwnK E.rows Hr w → ∀ Q : Exit → Act → World → Prop, ¬ LetsOut Q →
    (∀ a' Hr' w', RelSt E.rows D st' a' Hr' → OwnK E.rows Hr' w' → Stp st.m.wr Hr w Hr' w' → Q .normal a' w') → (Code.region id l.toArray true).wpIn (Fence.wide.inRound lr) 0 E.P Q a w := by
  unfold drawnP at h
  split at h
  · rename_i p hp
    obtain ⟨st1, h1, hlo1, h2⟩ := head_sound hE hC (fun l => st.m.wr l || Nat.ble st.m.H.length l) (statOf st l p.n) l p.ord st _ h
    obtain ⟨st2, h3, hlo2, h4⟩ := list_sound hE hC l (l.drop p.n) st1 K h1
    refine ⟨st2, h3, hlo2.trans hlo1, fun a Hr w hR hO Q hlo hq => ?_⟩
    have hok := planOf_ok hp
    unfold Plan.ok at hok
    have hSt := stOK_of (stat := statOf st l p.n) (Hr := Hr) fun i hi => by
      obtain ⟨_, _, _, hBB, _⟩ := hR
      unfold statOf at hi
      rw [Bool.and_eq_true, Nat.blt_eq] at hi
      rw [hBB.len]; exact hi.1
    refine Fr.regInG (H := Hr) hd hlo (fun b => ∀ l, (nums Hr)[l]? = some b → st.m.wr l = false) p.n p.C p.G p.T0 p.ord p.tl _ (fun p hp => hSt.mem hp) trivial hE.mixed hok hO.1 ?_
    refine h2 a Hr hR _ _ w.drew _ hSt (fun j r hj b off ha h0 l hl => absurd (List.mem_of_getElem? hl) (hO.2 j r hj b off ha h0).1) (hO.2.below rfl ((Below.refl _ _).drew)) (fun l b hl hb => by
      obtain ⟨_, _, _, hBB, _⟩ := hR
      rw [Bool.or_eq_true] at hl
      rcases hl with hl | hl
      · exact .inr fun hf => by rw [hf l hb] at hl; cases hl
      · have := (List.getElem?_eq_some_iff.1 hb).1
        have := hBB.len
        have := Nat.le_of_ble_eq_true hl
        simp only [nums, List.length_map] at *
        omega) fun a' Hr' hR' hx w' hb hH => h4 a' Hr' w' hR' ⟨hH, (show Stp st.m.wr Hr w Hr' w' from ⟨hb.os, hb.tape, hb.output, hb.size, hx, hb.block⟩).rd hO.2⟩ Q fun a2 Hr2 w2 hR2 hO2 hS2 => hq a2 Hr2 w2 hR2 hO2 ?_
    rw [hlo1] at hS2
    refine Stp.trans (v := w') (B := Hr') ?_ hS2
    exact ⟨hb.os, hb.tape, hb.output, hb.size, hx, hb.block⟩
  · exact h.elim
end
theorem rch_out {e : AExit} {st' : ASt} {wr : Nat → Bool} {Hr : List Block} {w : World} : ¬ LetsOut (Rch R D e st' wr Hr w) := by
  rintro ⟨a, w, h, _⟩
  cases e <;> simp [AExit.real] at h
theorem ev_in {E : Env} (hE : EnvOK E) (lr : Nat) : ∀ n c st K, inB c = true → evT E n (.code c) st K → ∃ e st', K e st' ∧ st'.m.wr = st.m.wr ∧ ∀ {D : List Deferred} a Hr w, RelSt E.rows D st a Hr → OwnK E.rows Hr w → c.wpIn (Fence.wide.inRound lr) 0 E.P (Rch E.rows D e st' st.m.wr Hr w) a w
  | 0, c, st, K, _, h => h.elim
  | n + 1, c, st, K, hi, h => by
    have ih := ev_in hE lr n
    have hC := call_ok hE (ev_sound hE n)
    cases c with
    | skip => exact ⟨.normal, st, h, rfl, fun a Hr w hR hO => wpIn_skip ⟨rfl, Hr, hR, hO, .refl _ _ _⟩⟩
    | exit id => exact ⟨.exit id, st, h, rfl, fun a Hr w hR hO => wpIn_exit ⟨rfl, Hr, hR, hO, .refl _ _ _⟩⟩
    | goto l => exact ⟨.goto l, st, h, rfl, fun a Hr w hR hO => wpIn_goto ⟨rfl, Hr, hR, hO, .refl _ _ _⟩⟩
    | label l => exact ⟨.normal, st, h, rfl, fun a Hr w hR hO => wpIn_label ⟨rfl, Hr, hR, hO, .refl _ _ _⟩⟩
    | ret => exact ⟨.ret, st, h, rfl, fun a Hr w hR hO => wpIn_ret ⟨rfl, Hr, hR, hO, .refl _ _ _⟩⟩
    | region id ops d =>
      have hd : noDefer ops.toList = true := hi
      cases d with
      | false =>
        simp only [evT] at h
        obtain ⟨st', hk, hlo, hs⟩ := list_sound hE hC _ _ _ _ h
        refine ⟨.normal, st', hk, hlo, fun a Hr w hR hO => ?_⟩
        have h2 := hs a Hr w hR hO (Rch _ _ .normal st' st.m.wr Hr w) fun a' Hr' w' hR' hO' hS => ⟨rfl, Hr', hR', hO', hS⟩
        have := regIn (id := id) (l := lr) hd rch_out h2
        rwa [Array.toArray_toList] at this
      | true =>
        simp only [evT] at h
        obtain ⟨st', hk, hlo, hs⟩ := drawn_in hE hC lr (id := id) hd h
        refine ⟨.normal, st', hk, hlo, fun a Hr w hR hO => ?_⟩
        have := hs a Hr w hR hO (Rch _ _ .normal st' st.m.wr Hr w) rch_out fun a' Hr' w' hR' hO' hS => ⟨rfl, Hr', hR', hO', hS⟩
        rwa [Array.toArray_toList] at this
    | seq x y =>
      have hi2 : (inB x && inB y) = true := hi
      rw [Bool.and_eq_true] at hi2
      simp only [evT] at h
      obtain ⟨e1, st1, h1, hlo1, h2⟩ := ih _ _ _ hi2.1 h
      cases e1 <;> simp only at h1
      case normal =>
        obtain ⟨e, st', hk, hlo, hs⟩ := ih _ _ _ hi2.2 h1
        refine ⟨e, st', hk, hlo.trans hlo1, fun a Hr w hR hO => wpIn_seq (wpIn_mono (h2 a Hr w hR hO) ?_)⟩
        rintro e' a1 w1 ⟨rfl, Hr1, hR1, hO1, hS1⟩
        refine wpIn_mono (hs a1 Hr1 w1 hR1 hO1) fun e2 a2 w2 hq => ?_
        rw [hlo1] at hq
        exact hq.over hS1
      all_goals
        refine ⟨_, st1, h1, hlo1, fun a Hr w hR hO => wpIn_seq (wpIn_mono (h2 a Hr w hR hO) ?_)⟩
        rintro e' a1 w1 ⟨rfl, hq⟩
        exact ⟨rfl, hq⟩
    | cond c x y =>
      have hi2 : (inB x && inB y) = true := hi
      rw [Bool.and_eq_true] at hi2
      simp only [evT] at h
      split at h
      · rename_i z hc
        cases z <;> simp only [cond_true, cond_false] at h
        · obtain ⟨e, st', hk, hlo, hs⟩ := ih _ _ _ hi2.2 h
          exact ⟨e, st', hk, hlo, fun a Hr w hR hO => wpIn_cond (cond_bool hR hc) (hs a Hr w hR hO)⟩
        · obtain ⟨e, st', hk, hlo, hs⟩ := ih _ _ _ hi2.1 h
          exact ⟨e, st', hk, hlo, fun a Hr w hR hO => wpIn_cond (cond_bool hR hc) (hs a Hr w hR hO)⟩
      · rename_i z hc
        split at h
        · rename_i d ds hds
          obtain ⟨rfl, h⟩ := h
          cases z <;> simp only [cond_true, cond_false] at h
          · obtain ⟨e, st', hk, hlo, hs⟩ := ih _ _ _ hi2.2 h
            exact ⟨e, st', hk, hlo, fun a Hr w hR hO => wpIn_cond (cond_bool hR hc) (hs a Hr w (refine_sound hR hc) hO)⟩
          · obtain ⟨e, st', hk, hlo, hs⟩ := ih _ _ _ hi2.1 h
            exact ⟨e, st', hk, hlo, fun a Hr w hR hO => wpIn_cond (cond_bool hR hc) (hs a Hr w (refine_sound hR hc) hO)⟩
        · exact h.elim
      · exact h.elim
    | block id c =>
      simp only [evT] at h
      obtain ⟨e1, st1, h1, hlo1, h2⟩ := ih c _ _ hi h
      cases e1 <;> simp only at h1
      case exit j =>
        cases hj : Nat.beq j id <;> simp only [hj, cond_true, cond_false] at h1
        · refine ⟨.exit j, st1, h1, hlo1, fun a Hr w hR hO => wpIn_block (wpIn_mono (h2 a Hr w hR hO) ?_)⟩
          rintro e' a1 w1 ⟨rfl, hq⟩
          have : j ≠ id := Nat.ne_of_beq_eq_false hj
          simp only [AExit.real, Exit.inBlock, if_neg this]
          exact ⟨rfl, hq⟩
        · refine ⟨.normal, st1, h1, hlo1, fun a Hr w hR hO => wpIn_block (wpIn_mono (h2 a Hr w hR hO) ?_)⟩
          rintro e' a1 w1 ⟨rfl, hq⟩
          have := Nat.eq_of_beq_eq_true hj
          simp only [AExit.real, Exit.inBlock, if_pos this]
          exact ⟨rfl, hq⟩
      all_goals
        refine ⟨_, st1, h1, hlo1, fun a Hr w hR hO => wpIn_block (wpIn_mono (h2 a Hr w hR hO) ?_)⟩
        rintro e' a1 w1 ⟨rfl, hq⟩
        exact ⟨rfl, hq⟩
    | _ => cases hi
end

section
/-- What is computed is what is wanted. -/
structure Is (p : Prop) : Prop where
  is : p
/-- So much must come out so. -/
def allE : List (Bool × Bool) → Prop → Prop
  | [], p => p
  | (b, c) :: r, p => b = c ∧ allE r p
def AllE : List (Bool × Bool) → Prop
  | [] => True
  | (b, c) :: r => b = c ∧ AllE r
theorem allE_of : ∀ {l : List (Bool × Bool)} {p : Prop}, AllE l → p → allE l p
  | [], _, _, h => h
  | (_, _) :: _, _, ⟨h, hs⟩, hp => ⟨h, allE_of hs hp⟩
theorem ev_cond (l : List (Bool × Bool)) {p : Prop} {r : AV} (h : p = allE l (r = r)) (hl : AllE l) : Is p := ⟨h ▸ allE_of hl rfl⟩
theorem ev_lit {p : Prop} {r : AV} (h : p = (r = r)) : Is p := ⟨h ▸ rfl⟩

def limb (x : BitVec 256) (q : Nat) : BitVec 64 := BitVec.ofNat 64 (x.toNat / 2 ^ (64 * q))
def mkW (a b c d : BitVec 64) : BitVec 256 := BitVec.ofNat 256 (a.toNat + 18446744073709551616 * b.toNat + 340282366920938463463374607431768211456 * c.toNat + 6277101735386680763835789423207666416102355444464034512896 * d.toNat)
abbrev re (x : BitVec 256) : BitVec 256 := mkW (limb x 0) (limb x 1) (limb x 2) (limb x 3)
theorem limb_L (x : BitVec 256) (q : Nat) : ((limb x q).toNat : Int) = L x q := by
  rw [L_eq]; unfold limb; rw [BitVec.toNat_ofNat]
theorem mkW_nat (a b c d : BitVec 64) : (mkW a b c d).toNat = a.toNat + 18446744073709551616 * b.toNat + 340282366920938463463374607431768211456 * c.toNat + 6277101735386680763835789423207666416102355444464034512896 * d.toNat := by
  have ha := a.isLt
  have hb := b.isLt
  have hc := c.isLt
  have hd := d.isLt
  unfold mkW
  rw [BitVec.toNat_ofNat]
  apply Nat.mod_eq_of_lt
  omega
theorem limb_mkW (a b c d : BitVec 64) : limb (mkW a b c d) 0 = a ∧ limb (mkW a b c d) 1 = b ∧ limb (mkW a b c d) 2 = c ∧ limb (mkW a b c d) 3 = d := by
  have ha := a.isLt
  have hb := b.isLt
  have hc := c.isLt
  have hd := d.isLt
  have h := mkW_nat a b c d
  unfold limb
  refine ⟨?_, ?_, ?_, ?_⟩ <;>
    (apply BitVec.eq_of_toNat_eq; rw [BitVec.toNat_ofNat, h]; simp only [Nat.reducePow, Nat.reduceMul]; omega)
theorem W_limbs (x : BitVec 256) : W x = .agg #[.int .u64 (limb x 0).toNat, .int .u64 (limb x 1).toNat, .int .u64 (limb x 2).toNat, .int .u64 (limb x 3).toNat] := by
  simp only [limb_L]
theorem re_eq (x : BitVec 256) : re x = x := by
  obtain ⟨h0, h1, h2, h3⟩ := limb_mkW (limb x 0) (limb x 1) (limb x 2) (limb x 3)
  apply L_ext <;> rw [← limb_L, ← limb_L]
  · rw [h0]
  · rw [h1]
  · rw [h2]
  · rw [h3]
theorem W_mkW (a b c d : BitVec 64) : W (mkW a b c d) = .agg #[.int .u64 a.toNat, .int .u64 b.toNat, .int .u64 c.toNat, .int .u64 d.toNat] := by
  obtain ⟨h0, h1, h2, h3⟩ := limb_mkW a b c d
  rw [W_limbs, h0, h1, h2, h3]
def b64 (x : BitVec 64) : AV := .bv .u64 x
def wA (x : BitVec 256) : AV := .agg [b64 (limb x 0), b64 (limb x 1), b64 (limb x 2), b64 (limb x 3)]
abbrev wC (x : BitVec 256) : List AV := [b64 (limb x 0), b64 (limb x 1), b64 (limb x 2), b64 (limb x 3)]
theorem vals_wC (x : BitVec 256) : AV.vals? (wC x) = some [.int .u64 (L x 0), .int .u64 (L x 1), .int .u64 (L x 2), .int .u64 (L x 3)] := by simp only [← limb_L]; rfl
theorem told_wA (x : BitVec 256) : (wA x).told? = some (W x) := by rw [W_limbs]; rfl
theorem rel_wA {R : Rws} (ρ : List Nat) (x : BitVec 256) : Rel R ρ (wA x) (W x) := by
  rw [W_limbs]
  exact .agg (.cons (.bv rfl) (.cons (.bv rfl) (.cons (.bv rfl) (.cons (.bv rfl) .nil))))
def asB64 (v : AV) : Option (BitVec 64) := v.asBv .u64
def asW : AV → Option (BitVec 256)
  | .agg [c0, c1, c2, c3] => match asB64 c0, asB64 c1, asB64 c2, asB64 c3 with
    | some a, some b, some c, some d => some (mkW a b c d)
    | _, _, _, _ => none
  | _ => none
theorem asW_rel {R : Rws} {ρ : List Nat} {v : AV} {V : Value} {x : BitVec 256} (h : asW v = some x) (hr : Rel R ρ v V) : V = W x := by
  unfold asW at h
  split at h
  · split at h
    · rename_i a b c d h0 h1 h2 h3
      cases h
      cases hr with | agg hr =>
      cases hr with | cons r0 hr =>
      cases hr with | cons r1 hr =>
      cases hr with | cons r2 hr =>
      cases hr with | cons r3 hr =>
      cases hr
      rw [asBv_sound h0 r0 rfl, asBv_sound h1 r1 rfl, asBv_sound h2 r2 rfl, asBv_sound h3 r3 rfl, W_mkW]
      rfl
    · cases h
  · cases h
def asN : AV → Option (BitVec 64) := asB64
theorem asN_rel {R : Rws} {ρ : List Nat} {v : AV} {V : Value} {x : BitVec 64} (h : asN v = some x) (hr : Rel R ρ v V) : V = .int .u64 (x.toNat : Int) := asBv_sound h hr rfl
def asI (k : IntKind) : AV → Option Int
  | .int k' _ n => if k' = k then some n else none
  | _ => none
theorem asI_rel {R : Rws} {ρ : List Nat} {k : IntKind} {v : AV} {V : Value} {x : Int} (h : asI k v = some x) (hr : Rel R ρ v V) : V = .int k x := by
  cases hr <;> simp only [asI] at h <;> try cases h
  split at h
  · rename_i e; subst e; cases h; rfl
  · cases h
def asB : AV → Option Bool
  | .bool _ b => some b
  | _ => none
theorem asB_rel {R : Rws} {ρ : List Nat} {v : AV} {V : Value} {x : Bool} (h : asB v = some x) (hr : Rel R ρ v V) : V = .bool x := by
  cases hr <;> simp only [asB] at h <;> cases h
  rfl
abbrev CtrF := List AV → List ABlk → Option VC
section
variable {R : Rws}
def lookF : List (Nat × CtrF) → Nat → Option CtrF
  | [], _ => none
  | (g, F) :: r, f => bif Nat.beq f g then some F else lookF r f
theorem lookF_ok {P : Program} : ∀ {T : List (Nat × CtrF)}, (∀ p ∈ T, Good P R p.1 p.2) → ∀ f F, lookF T f = some F → Good P R f F
  | [], _, _, _, h => by cases h
  | (g, F) :: r, hT, f, F', h => by
    unfold lookF at h
    cases hb : Nat.beq f g <;> simp only [hb, cond_true, cond_false] at h
    · exact lookF_ok (fun p hp => hT p (List.mem_cons_of_mem _ hp)) f F' h
    · cases h; rw [Nat.eq_of_beq_eq_true hb]; exact hT _ (List.mem_cons_self ..)
theorem good_cons {P : Program} {p : Nat × CtrF} {T : List (Nat × CtrF)} (h : Good P R p.1 p.2) (hT : ∀ p ∈ T, Good P R p.1 p.2) : ∀ q ∈ p :: T, Good P R q.1 q.2 := fun q hq => by
  rcases List.mem_cons.1 hq with rfl | hq
  · exact h
  · exact hT q hq
theorem good_nil {P : Program} : ∀ q ∈ ([] : List (Nat × CtrF)), Good P R q.1 q.2 := fun q hq => by cases hq
section
variable {P : Program} {f : FuncId} (hen : Enters P f)
def ctr0 (r : AV) : CtrF
  | [], _ => some (r, [])
  | _, _ => none
theorem ctr0_ok {r : AV} {V : Value} (hen : Enters P f) (hV : r.told? = some V) (h : ∀ w, Calls P f #[] w fun e w' => e = .returned V ∧ Below w.heap.size w w') : Good P R f (ctr0 r) := by
  refine ⟨hen, fun args H v cs hv _ => ?_⟩
  unfold ctr0 at hv
  split at hv
  · cases hv; exact ⟨V, hV, fun Hr Args ha _ w _ => by cases ha; exact h w⟩
  · cases hv
def ctrT {α : Type} (pa : AV → Option α) (F : α → AV) : CtrF
  | [x], _ => match pa x with
    | some x => some (F x, [])
    | none => none
  | _, _ => none
theorem ctrT_ok {α : Type} {pa : AV → Option α} {enc : α → Value} (hr : ∀ {R : Rws} {ρ : List Nat} {v : AV} {V : Value} {x : α}, pa v = some x → Rel R ρ v V → V = enc x) {F : α → AV} {V : α → Value} (hen : Enters P f) (hV : ∀ x, (F x).told? = some (V x)) (h : ∀ x w, Calls P f #[enc x] w fun e w' => e = .returned (V x) ∧ Below w.heap.size w w') : Good P R f (ctrT pa F) := by
  refine ⟨hen, fun args H v cs hv _ => ?_⟩
  unfold ctrT at hv
  split at hv
  · split at hv
    · rename_i x hx
      cases hv; exact ⟨_, hV x, fun Hr Args ha _ w _ => by cases ha with | cons h1 h2 => cases h2; rw [hr hx h1]; exact h x w⟩
    · cases hv
  · cases hv
def ctrTT {α β : Type} (pa : AV → Option α) (pb : AV → Option β) (F : α → β → AV) : CtrF
  | [x, y], _ => match pa x, pb y with
    | some x, some y => some (F x y, [])
    | _, _ => none
  | _, _ => none
theorem ctrTT_ok {α β : Type} {pa : AV → Option α} {pb : AV → Option β} {ea : α → Value} {eb : β → Value} (hr : ∀ {R : Rws} {ρ : List Nat} {v : AV} {V : Value} {x : α}, pa v = some x → Rel R ρ v V → V = ea x) (hs : ∀ {R : Rws} {ρ : List Nat} {v : AV} {V : Value} {x : β}, pb v = some x → Rel R ρ v V → V = eb x) {F : α → β → AV} {V : α → β → Value} (hen : Enters P f) (hV : ∀ x y, (F x y).told? = some (V x y)) (h : ∀ x y w, Calls P f #[ea x, eb y] w fun e w' => e = .returned (V x y) ∧ Below w.heap.size w w') : Good P R f (ctrTT pa pb F) := by
  refine ⟨hen, fun args H v cs hv _ => ?_⟩
  unfold ctrTT at hv
  split at hv
  · split at hv
    · rename_i x y hx hy
      cases hv; exact ⟨_, hV x y, fun Hr Args ha _ w _ => by cases ha with | cons h1 h2 => cases h2 with | cons h2 h3 => cases h3; rw [hr hx h1, hs hy h2]; exact h x y w⟩
    · cases hv
  · cases hv
def ctrTTT {α β γ : Type} (pa : AV → Option α) (pb : AV → Option β) (pc : AV → Option γ) (F : α → β → γ → AV) : CtrF
  | [x, y, z], _ => match pa x, pb y, pc z with
    | some x, some y, some z => some (F x y z, [])
    | _, _, _ => none
  | _, _ => none
theorem ctrTTT_ok {α β γ : Type} {pa : AV → Option α} {pb : AV → Option β} {pc : AV → Option γ} {ea : α → Value} {eb : β → Value} {ec : γ → Value} (hr : ∀ {R : Rws} {ρ : List Nat} {v : AV} {V : Value} {x : α}, pa v = some x → Rel R ρ v V → V = ea x) (hs : ∀ {R : Rws} {ρ : List Nat} {v : AV} {V : Value} {x : β}, pb v = some x → Rel R ρ v V → V = eb x)
    (ht : ∀ {R : Rws} {ρ : List Nat} {v : AV} {V : Value} {x : γ}, pc v = some x → Rel R ρ v V → V = ec x) {F : α → β → γ → AV} {V : α → β → γ → Value} (hen : Enters P f) (hV : ∀ x y z, (F x y z).told? = some (V x y z)) (h : ∀ x y z w, Calls P f #[ea x, eb y, ec z] w fun e w' => e = .returned (V x y z) ∧ Below w.heap.size w w') : Good P R f (ctrTTT pa pb pc F) := by
  refine ⟨hen, fun args H v cs hv _ => ?_⟩
  unfold ctrTTT at hv
  split at hv
  · split at hv
    · rename_i x y z hx hy hz
      cases hv; exact ⟨_, hV x y z, fun Hr Args ha _ w _ => by cases ha with | cons h1 h2 => cases h2 with | cons h2 h3 => cases h3 with | cons h3 h4 => cases h4; rw [hr hx h1, hs hy h2, ht hz h3]; exact h x y z w⟩
    · cases hv
  · cases hv
end
end
/-- == of arrays of numbers. -/
theorem cellsK_rep (k : IntKind) : ∀ xs : List Int, cellsK (List.replicate xs.length k) xs = xs.map (Value.int k)
  | [] => rfl
  | x :: xs => by
    have ih := cellsK_rep k xs
    unfold cellsK at ih ⊢
    rw [List.length_cons, List.replicate_succ, List.zipWith_cons_cons, ih]; rfl
theorem eqT_ints {P : Program} {t e : TypeId} {len : Nat} {k : IntKind} (hu : P.underlying t = some (.array len e)) (he : P.underlying e = some (.int k)) (hs : (P.info? e).map (·.size) = some 1) : EqT P t (List.replicate len k) := by
  intro xs ys hx hy w
  rw [List.length_replicate] at hx hy
  have ex : cellsK (List.replicate len k) xs = xs.map (Value.int k) := by rw [← hx]; exact cellsK_rep k xs
  have ey : cellsK (List.replicate len k) ys = ys.map (Value.int k) := by rw [← hy]; exact cellsK_rep k ys
  rw [ex, ey]
  exact run_equalIn_ints hu he hs 9998 w xs ys hx hy
def lookE : List (Nat × List IntKind) → Nat → Option (List IntKind)
  | [], _ => none
  | (g, F) :: r, f => bif Nat.beq f g then some F else lookE r f
theorem lookE_ok {P : Program} : ∀ {T : List (Nat × List IntKind)}, (∀ p ∈ T, EqT P p.1 p.2) → ∀ f F, lookE T f = some F → EqT P f F
  | [], _, _, _, h => by cases h
  | (g, F) :: r, hT, f, F', h => by
    unfold lookE at h
    cases hb : Nat.beq f g <;> simp only [hb, cond_true, cond_false] at h
    · exact lookE_ok (fun p hp => hT p (List.mem_cons_of_mem _ hp)) f F' h
    · cases h; rw [Nat.eq_of_beq_eq_true hb]; exact hT _ (List.mem_cons_self ..)
theorem eqs_cons {P : Program} {p : Nat × List IntKind} {T : List (Nat × List IntKind)} (h : EqT P p.1 p.2) (hT : ∀ p ∈ T, EqT P p.1 p.2) : ∀ q ∈ p :: T, EqT P q.1 q.2 := fun q hq => by
  rcases List.mem_cons.1 hq with rfl | hq
  · exact h
  · exact hT q hq
theorem eqs_nil {P : Program} : ∀ q ∈ ([] : List (Nat × List IntKind)), EqT P q.1 q.2 := fun q hq => by cases hq
theorem told_WW (x y : BitVec 256) : (AV.tuple [wA x, wA y]).told? = some (.tuple #[W x, W y]) := by rw [W_limbs x, W_limbs y]; rfl
/-- == of words as it is computed. -/
def eqB (x y : BitVec 256) : Bool := (limb x 0 == limb y 0) && ((limb x 1 == limb y 1) && ((limb x 2 == limb y 2) && ((limb x 3 == limb y 3) && true)))
theorem eqB_eq (x y : BitVec 256) : eqB x y = decide (x = y) := by
  rw [Bool.eq_iff_iff]
  unfold eqB
  simp only [Bool.and_eq_true, beq_iff_eq, decide_eq_true_eq, and_true]
  constructor
  · rintro ⟨h0, h1, h2, h3⟩
    rw [← re_eq x, ← re_eq y]
    unfold re
    rw [h0, h1, h2, h3]
  · rintro rfl; exact ⟨rfl, rfl, rfl, rfl⟩
theorem allE_nil : AllE [] := trivial
theorem allE_cons {b c : Bool} {r : List (Bool × Bool)} (h : b = c) (hs : AllE r) : AllE ((b, c) :: r) := ⟨h, hs⟩
def eqZ4 (x : BitVec 256) : Bool := (((limb x 0).toNat : Int) == 0) && ((((limb x 1).toNat : Int) == 0) && ((((limb x 2).toNat : Int) == 0) && ((((limb x 3).toNat : Int) == 0) && true)))
theorem eqB_self (x : BitVec 256) : eqB x x = true := by rw [eqB_eq]; simp
end

section
variable {D : List Deferred} {R : Rws}

/-! ### States of which only what is wanted is known. -/
def look (i : Nat) : List (Nat × AV) → Option AV
  | [] => none
  | (j, v) :: r => bif Nat.beq i j then some v else look i r
def pat (live : List (Nat × AV)) (r : Nat → Value) : Nat → Nat → List AV
  | _, 0 => []
  | i, n + 1 => (match look i live with | some v => v | none => .raw (r i)) :: pat live r (i + 1) n
def Lives (tl : List AV) (live : List (Nat × AV)) : Prop := ∀ i v, look i live = some v → tl[i]? = some v
theorem pat_rel {ρ : List Nat} {live : List (Nat × AV)} {vs : List Value} : ∀ {tl : List AV} {i : Nat}, RelL R ρ tl (vs.drop i) → (∀ k v, look (i + k) live = some v → tl[k]? = some v) → RelL R ρ (pat live (fun i => vs.getD i undef) i tl.length) (vs.drop i)
  | [], i, h, _ => by
    generalize hd : vs.drop i = d at h
    cases h
    exact .nil
  | c :: cs, i, h, hl => by
    rcases hd : vs.drop i with _ | ⟨v, r⟩
    · rw [hd] at h; cases h
    · rw [hd] at h
      cases h with | cons h hs =>
      have hr : vs.drop (i + 1) = r := by rw [← List.tail_drop, hd]; rfl
      have hv : vs[i]? = some v := by rw [← List.head?_drop, hd]; rfl
      have ih := pat_rel (tl := cs) (i := i + 1) (by rw [hr]; exact hs) (fun k u hu => by have := hl (k + 1) u (by rw [← hu]; congr 1; omega); simpa using this)
      rw [hr] at ih
      refine .cons ?_ ih
      split
      · rename_i u hu
        have := hl 0 u hu
        simp at this
        subst this; exact h
      · have e : vs.getD i undef = v := by simp [List.getD, hv]
        show Rel R ρ (.raw (vs.getD i undef)) v
        rw [e]; exact .raw
theorem pat_of {ρ : List Nat} {tl : List AV} {vs : List Value} (h : RelL R ρ tl vs) {live : List (Nat × AV)} (hl : Lives tl live) : ∃ r, RelL R ρ (pat live r 0 tl.length) vs :=
  ⟨_, by simpa using pat_rel (vs := vs) (i := 0) (tl := tl) (by simpa using h) (fun k v hv => hl k v (by simpa using hv))⟩
theorem lives_of {tl : List AV} : ∀ {live : List (Nat × AV)}, live.map (fun p => tl[p.1]?) = live.map (fun p => some p.2) → Lives tl live
  | [], _, i, v, h => by cases h
  | (j, u) :: r, he, i, v, h => by
    simp only [List.map_cons, List.cons.injEq] at he
    unfold look at h
    cases hb : Nat.beq i j <;> simp only [hb, cond_true, cond_false] at h
    · exact lives_of he.2 i v h
    · rw [Nat.eq_of_beq_eq_true hb]; cases h; exact he.1
def PatSt (R : Rws) (D : List Deferred) (live : List (Nat × AV)) (n : Nat) (m : AM) (a : Act) (Hr : List Block) : Prop := ∃ r, RelSt R D ⟨pat live r 0 n, m⟩ a Hr
theorem pat_len (live : List (Nat × AV)) (r : Nat → Value) : ∀ i n, (pat live r i n).length = n
  | _, 0 => rfl
  | i, n + 1 => by unfold pat; rw [List.length_cons, pat_len]
theorem patSt_of {live live' : List (Nat × AV)} {n : Nat} {st : ASt} {a : Act} {Hr : List Block} (h : RelSt R D st a Hr) (hn : st.tl.length = n) (hl : Lives st.tl live') : PatSt R D live' n st.m a Hr := by
  obtain ⟨vs, rfl, ht, hB, hnd⟩ := h
  subst hn
  obtain ⟨r, hr⟩ := pat_of ht hl
  exact ⟨r, vs, rfl, hr, hB, hnd⟩

/-! ### What is known of the world beside. -/
def markD (D : Nat) : Deferred := { target := .collected D, args := #[] }
structure Bun (R : Rws) (Ds : List Nat) (n0 : Nat) (w0 : World) (Hr : List Block) (w : World) : Prop where
  own : OwnK R Hr w
  marks : ∀ D ∈ Ds, w.heap[D]? = some (.deferred (some [])) ∧ D ∉ nums Hr ∧ n0 ≤ D
  nodup : Ds.Nodup
  fresh : ∀ b ∈ nums Hr, n0 ≤ b
  below : Below n0 w0 w
  size : n0 ≤ w.heap.size
theorem Bun.stp {Ds : List Nat} {n0 : Nat} {w0 : World} {Hr Hr' : List Block} {w w' : World} {wr : Nat → Bool} (h : Bun R Ds n0 w0 Hr w) (hO : OwnK R Hr' w') (hS : Stp wr Hr w Hr' w') : Bun R Ds n0 w0 Hr' w' := by
  obtain ⟨σ, e1, n1⟩ := hS.ext
  have hs := h.size
  refine ⟨hO, fun D hD => ?_, h.nodup, fun b hb => ?_, ?_, Nat.le_trans h.size hS.size⟩
  · obtain ⟨h1, h2, h3⟩ := h.marks D hD
    have hl := (Array.getElem?_eq_some_iff.1 h1).1
    refine ⟨(hS.block D hl (fun l hl => absurd (List.mem_of_getElem? hl) h2)).trans h1, fun hm => ?_, h3⟩
    rw [e1] at hm
    rcases List.mem_append.1 hm with hm | hm
    · exact h2 hm
    · have := n1 D hm; omega
  · rw [e1] at hb
    rcases List.mem_append.1 hb with hb | hb
    · exact h.fresh b hb
    · have := n1 b hb; omega
  · exact h.below.trans ⟨hS.os, hS.tape, hS.output, hS.size, fun k hk => hS.block k (by omega) (fun l hl => by have := h.fresh k (List.mem_of_getElem? hl); omega)⟩

/-! ### Pieces of code. -/
theorem ev_eq {α : Type} (l : List (Bool × Bool)) (r : α) {p : Prop} (h : p = allE l (r = r)) (hl : AllE l) : Is p := ⟨h ▸ allE_of hl rfl⟩
def isNorm : AExit → Bool
  | .normal => true
  | _ => false
def chK (live : List (Nat × AV)) (n : Nat) (H : List ABlk) (ds : List Bool) : AExit → ASt → Prop := fun e st =>
  (isNorm e, st.tl.length, live.map (fun p => st.tl[p.1]?), st.m.H, st.m.ds) = (true, n, live.map (fun p => some p.2), H, ds)
/-- What chK says when it is so. -/
abbrev chR (live : List (Nat × AV)) (n : Nat) (H : List ABlk) (ds : List Bool) : Bool × Nat × List (Option AV) × List ABlk × List Bool := (true, n, live.map (fun p => some p.2), H, ds)
def evCs (E : Env) (nf : Nat) : List Code → ASt → (AExit → ASt → Prop) → Prop
  | [], st, K => K .normal st
  | c :: cs, st, K => evT E nf (.code c) st fun e st => match e with
    | .normal => evCs E nf cs st K
    | _ => False
def takeSeq : Nat → Code → List Code
  | k + 1, .seq x y => x :: takeSeq k y
  | _, _ => []
def dropSeq : Nat → Code → Code
  | k + 1, .seq _ y => dropSeq k y
  | _, c => c
section
variable {E : Env} (hE : EnvOK E) {Ds : List Nat} {n0 : Nat} {w0 : World}
include hE
theorem evCs_sound (nf : Nat) : ∀ (k : Nat) (c : Code) (st : ASt) (K : AExit → ASt → Prop), evCs E nf (takeSeq k c) st K → ∃ st', K .normal st' ∧ st'.m.wr = st.m.wr ∧ ∀ {D : List Deferred} a Hr w, RelSt E.rows D st a Hr → OwnK E.rows Hr w → ∀ Q : Exit → Act → World → Prop,
    (∀ a' Hr' w', RelSt E.rows D st' a' Hr' → OwnK E.rows Hr' w' → Stp st.m.wr Hr w Hr' w' → (dropSeq k c).wp E.P Q a' w') → c.wp E.P Q a w
  | 0, c, st, K, h => by
    cases c <;> exact ⟨st, h, rfl, fun a Hr w hR hO Q hq => hq a Hr w hR hO (.refl _ _ _)⟩
  | k + 1, c, st, K, h => by
    cases c with
    | seq x y =>
      unfold takeSeq evCs at h
      obtain ⟨e, st1, h1, hlo1, h2⟩ := ev_sound hE nf _ _ _ h
      cases e <;> simp only at h1
      obtain ⟨st', hk, hlo, hs⟩ := evCs_sound nf k y st1 K h1
      refine ⟨st', hk, hlo.trans hlo1, fun a Hr w hR hO Q hq => wp_seq (wp_mono (h2 a Hr w hR hO) ?_)⟩
      rintro e' a1 w1 ⟨rfl, Hr1, hR1, hO1, hS1⟩
      refine hs a1 Hr1 w1 hR1 hO1 Q fun a' Hr' w' hR' hO' hS' => ?_
      rw [hlo1] at hS'
      exact hq a' Hr' w' hR' hO' (hS1.trans hS')
    | _ => exact ⟨st, h, rfl, fun a Hr w hR hO Q hq => hq a Hr w hR hO (.refl _ _ _)⟩
/-- So many statements, one behind the other. -/
theorem ev_seqs (nf k : Nat) {c : Code} {live live' : List (Nat × AV)} {n : Nat} {m : AM} {H' : List ABlk} {ds' : List Bool} (h : ∀ r, Is (evCs E nf (takeSeq k c) ⟨pat live r 0 n, m⟩ (chK live' n H' ds')))
    {a : Act} {Hr : List Block} {w : World} {Q : Exit → Act → World → Prop} (hP : PatSt E.rows D live n m a Hr) (hB : Bun E.rows Ds n0 w0 Hr w)
    (hk : ∀ a' Hr' w', PatSt E.rows D live' n ⟨H', ds', m.wr⟩ a' Hr' → Bun E.rows Ds n0 w0 Hr' w' → Stp m.wr Hr w Hr' w' → (dropSeq k c).wp E.P Q a' w') : c.wp E.P Q a w := by
  obtain ⟨r, hR⟩ := hP
  obtain ⟨st', h1, hlo, h2⟩ := evCs_sound hE nf k c _ _ (h r).is
  refine h2 a Hr w hR hB.own Q fun a' Hr' w' hR' hO' hS => ?_
  unfold chK at h1
  simp only [Prod.mk.injEq] at h1
  obtain ⟨_, hn, hl, rfl, rfl⟩ := h1
  have hP' := patSt_of (live := live) hR' hn (lives_of hl)
  have hm : st'.m = ⟨st'.m.H, st'.m.ds, m.wr⟩ := by rw [← hlo]
  rw [hm] at hP'
  exact hk a' Hr' w' hP' (hB.stp hO' hS) hS
end
/-! ### The way in and out. -/
def inLive : Nat → List AV → List (Nat × AV)
  | _, [] => []
  | i, v :: r => (i, v) :: inLive (i + 1) r
theorem look_in {l : List AV} : ∀ {i k : Nat} {v : AV}, look k (inLive i l) = some v → i ≤ k ∧ l[k - i]? = some v := by
  induction l with
  | nil => intro i k v h; cases h
  | cons c r ih =>
    intro i k v h
    unfold inLive look at h
    cases hb : Nat.beq k i <;> simp only [hb, cond_true, cond_false] at h
    · have := ih h
      refine ⟨by omega, ?_⟩
      rw [show k - i = (k - (i + 1)) + 1 by omega]
      simpa using this.2
    · rw [Nat.eq_of_beq_eq_true hb]; cases h; simp
theorem ev_enter {E : Env} {f : FuncId} {fn : Func} {c : Code} (hf : E.P.funcs[f]? = some fn) (hb : fn.body = some c) {args : List AV} {Args : List Value} (hn : args.length ≤ fn.ntmps) (ha : RelL E.rows [] args Args) {w : World} (hd : Rd E.rows [] w) {ds : List Bool} {wr : Nat → Bool} {Q : Ending → World → Prop}
    (h : ∀ a, PatSt E.rows ([].map markD) (inLive 0 args) fn.ntmps ⟨[], ds, wr⟩ a [] → Bun E.rows [] w.heap.size w [] w → c.wp E.P (bodyPostM Fence.wide 0 E.P fn Q) a w) : Calls E.P f Args.toArray w Q := by
  refine calls_marks hf hb (h _ ?_ ⟨⟨Own.nil _, hd⟩, by simp, by simp, by simp [nums], Below.refl _ _, Nat.le_refl _⟩)
  have hl := ha.len
  have hR : RelSt E.rows [] ⟨args ++ List.replicate (fn.ntmps - args.length) undefA, ⟨[], ds, wr⟩⟩ ⟨Args.toArray ++ Array.replicate (fn.ntmps - Args.toArray.size) undef, []⟩ [] := by
    refine ⟨Args ++ List.replicate (fn.ntmps - args.length) undef, ?_, ha.append (RelL.rep .raw _), .nil, by simp [nums]⟩
    congr 1
    apply Array.toList_inj.1
    simp [hl]
  exact patSt_of (live := []) hR (by simp; omega) (fun i v hv => by
    obtain ⟨_, h2⟩ := look_in hv
    simp only [Nat.sub_zero] at h2
    rw [List.getElem?_append_left (List.getElem?_eq_some_iff.1 h2).1]; exact h2)
def putsD : List Nat → World → World
  | [], w => w
  | D :: Ds, w => putsD Ds (w.putObj D (.deferred none))
theorem leave_marks {P : Program} {fn : Func} {tmps : Array Value} {Q : Ending → World → Prop} : ∀ (Ds : List Nat) (w : World), (∀ D ∈ Ds, w.heap[D]? = some (.deferred (some []))) → Ds.Nodup →
    (∃ v, (results fn tmps).run P (putsD Ds w) = .ok v (putsD Ds w) ∧ Q (.returned v) (putsD Ds w)) → LeavesInM Fence.wide 0 P fn tmps Q (Ds.map markD) .returning w
  | [], w, _, _, h => h
  | D :: Ds, w, hD, hn, h => by
    have hn' := List.nodup_cons.1 hn
    refine ⟨by simp, .inl ⟨_, _, rfl, run_takeDeferred (hD D (by simp)), ?_⟩⟩
    refine leave_marks Ds (w.putObj D (.deferred none)) (fun E hE => ?_) hn'.2 h
    exact (World.putObj_heap_other (by intro e; subst e; exact hn'.1 hE)).trans (hD E (by simp [hE]))
theorem own_putsD {H : List Block} : ∀ (Ds : List Nat) {w : World}, (∀ D ∈ Ds, D ∉ nums H) → Own H w → Own H (putsD Ds w)
  | [], _, _, h => h
  | D :: Ds, w, hD, h => own_putsD Ds (fun E hE => hD E (by simp [hE])) (fun p hp => Blk.put (h p hp) _ (by intro e; exact hD D (by simp) (by rw [← e]; exact List.mem_map_of_mem hp)))
theorem below_putsD {n : Nat} {w0 : World} : ∀ (Ds : List Nat) {w : World}, (∀ D ∈ Ds, n ≤ D) → Below n w0 w → Below n w0 (putsD Ds w)
  | [], _, _, h => h
  | D :: Ds, w, hD, h => below_putsD Ds (fun E hE => hD E (by simp [hE])) (Below.put h _ (hD D (by simp)))
/-- Rows lie apart from marks: they are below, or kept. -/
theorem rd_putsD {nb : List Nat} : ∀ (Ds : List Nat) {w : World}, (∀ D ∈ Ds, w.heap[D]? = some (.deferred (some []))) → Ds.Nodup → RwOK R → Rd R nb w → (∀ j r, R j = some r → 0 < r.n → 0 < (r.V 0).length) → Rd R nb (putsD Ds w)
  | [], _, _, _, _, h, _ => h
  | D :: Ds, w, hD, hn, hR, h, hp => by
    have hn' := List.nodup_cons.1 hn
    refine rd_putsD Ds (fun E hE => (World.putObj_heap_other (by intro e; subst e; exact hn'.1 hE)).trans (hD E (by simp [hE]))) hn'.2 hR (fun j r hj b off ha h0 => ?_) hp
    obtain ⟨h1, h2, h3⟩ := h j r hj b off ha h0
    have hne : b ≠ D := by
      intro e; subst e
      have hl := hp j r hj h0
      have hc := h3 0 h0 0 ((r.V 0)[0]) (by simp [hl])
      have := hD b (by simp)
      simp [World.cell?, this] at hc
    have hbk : (w.putObj D (.deferred none)).heap[b]? = w.heap[b]? := World.putObj_heap_other hne
    exact ⟨h1, by simpa [World.putObj] using h2, fun i hi q u hu => (World.cell?_of_block (a := ⟨b, off + i * r.s + q, none⟩) hbk).trans (h3 i hi q u hu)⟩
def retK (E : Env) (fn : Func) (r : AV) : AExit → ASt → Prop
  | .ret, st | .normal, st => resA E.P E.rows st.m.H st.tl fn.results.toList = some [r]
  | _, _ => False
/-- The rest of a function. -/
theorem ev_rest {E : Env} (hE : EnvOK E) (nf : Nat) {c : Code} {live : List (Nat × AV)} {n : Nat} {m : AM} {r : AV} {V : Value} {fn : Func} (h : ∀ rs, Is (evT E nf (.code c) ⟨pat live rs 0 n, m⟩ (retK E fn r))) (hV : r.told? = some V)
    (hp : ∀ j r, E.rows j = some r → 0 < r.n → 0 < (r.V 0).length)
    {a : Act} {Hr : List Block} {w w0 : World} {Ds : List Nat} {n0 : Nat} (hP : PatSt E.rows (Ds.map markD) live n m a Hr) (hB : Bun E.rows Ds n0 w0 Hr w) :
    c.wp E.P (bodyPostM Fence.wide 0 E.P fn (fun e w' => e = .returned V ∧ Below n0 w0 w')) a w := by
  obtain ⟨rs, hR⟩ := hP
  obtain ⟨e, st', hk, hlo, hs⟩ := ev_sound hE nf (.code c) _ _ (h rs).is
  refine wp_mono (hs a Hr w hR hB.own) ?_
  rintro e' a' w' ⟨rfl, Hr', hR', hO', hS⟩
  have hB' := hB.stp hO' hS
  have key : ∀ {e' : Exit}, (e' = .ret ∨ e' = .normal) → resA E.P E.rows st'.m.H st'.tl fn.results.toList = some [r] → bodyPostM Fence.wide 0 E.P fn (fun e w' => e = .returned V ∧ Below n0 w0 w') e' a' w' := by
    intro e' he hvs
    have hd : a'.defers = Ds.map markD := by obtain ⟨tv, rfl, _⟩ := hR'; rfl
    obtain ⟨V', hv, hres⟩ := results_sound hE.rows hR' hvs
    have hVV : V' = V := hv.told hV
    subst hVV
    have := leave_marks (P := E.P) (fn := fn) (tmps := a'.tmps) (Q := fun e w' => e = .returned V' ∧ Below n0 w0 w') Ds w' (fun D hD => (hB'.marks D hD).1) hB'.nodup
      ⟨V', hres _ ⟨own_putsD Ds (fun D hD => (hB'.marks D hD).2.1) hO'.1, rd_putsD Ds (fun D hD => (hB'.marks D hD).1) hB'.nodup hE.rows hO'.2 hp⟩, rfl, below_putsD Ds (fun D hD => (hB'.marks D hD).2.2) hB'.below⟩
    rw [← hd] at this
    rcases he with rfl | rfl <;> exact this
  cases e <;> simp only [retK] at hk
  · exact key (.inr rfl) hk
  · exact key (.inl rfl) hk
end

section
variable {D : List Deferred} {R : Rws}

def setps (tl : List AV) : List Nat → List AV → List AV
  | [], _ => tl
  | _ :: _, [] => tl
  | p :: ps, x :: xs => setps (tl.set p x) ps xs
def setvs (tl : List Value) : List Nat → List Value → List Value
  | [], _ => tl
  | _ :: _, [] => tl
  | p :: ps, x :: xs => setvs (tl.set p x) ps xs
theorem setps_rel {ρ : List Nat} : ∀ {ps : List Nat} {xs : List AV} {Xs : List Value} {tl : List AV} {vs : List Value}, RelL R ρ tl vs → RelL R ρ xs Xs → RelL R ρ (setps tl ps xs) (setvs vs ps Xs)
  | [], _, _, _, _, h, _ => by unfold setps setvs; exact h
  | p :: ps, _, _, _, _, h, .nil => h
  | p :: ps, _, _, _, _, h, .cons hx hxs => by
    unfold setps setvs
    exact setps_rel (h.set hx) hxs
theorem setvs_foldl : ∀ (ps : List Tmp) (Xs vs : List Value), (ps.zip Xs).foldl (fun (t : Array Value) (x : Tmp × Value) => t.setIfInBounds x.1 x.2) vs.toArray = (setvs vs ps Xs).toArray
  | [], Xs, vs => by simp [setvs]
  | p :: ps, [], vs => by simp [setvs]
  | p :: ps, x :: Xs, vs => by
    simp only [List.zip_cons_cons, List.foldl_cons, List.setIfInBounds_toArray]
    exact setvs_foldl ps Xs _
theorem setvs_act (ps : List Tmp) (Xs vs : List Value) : ((ps.toArray.zip Xs.toArray).foldl (fun (t : Array Value) (x : Tmp × Value) => t.setIfInBounds x.1 x.2) vs.toArray) = (setvs vs ps Xs).toArray := by
  rw [List.zip_toArray, List.foldl_toArray]
  exact setvs_foldl ps Xs vs
mutual
def bddA (n : Nat) : AV → Bool
  | .ptr l _ => Nat.blt l n
  | .slice l _ _ _ => Nat.blt l n
  | .func _ cs => bddL n cs
  | .agg cs => bddL n cs
  | .tuple cs => bddL n cs
  | _ => true
def bddL (n : Nat) : List AV → Bool
  | [] => true
  | c :: r => bddA n c && bddL n r
end
def bddH (n : Nat) : List ABlk → Bool
  | [] => true
  | (c, _) :: r => bddL n c && bddH n r
theorem app_left {ρ σ : List Nat} {l b : Nat} (h : (ρ ++ σ)[l]? = some b) (hl : Nat.blt l ρ.length = true) : ρ[l]? = some b := by
  rw [Nat.blt_eq] at hl
  rwa [List.getElem?_append_left hl] at h
mutual
theorem Rel.shrink {ρ σ : List Nat} : ∀ {v : AV} {V : Value}, bddA ρ.length v = true → Rel R (ρ ++ σ) v V → Rel R ρ v V
  | _, _, _, .bool => .bool
  | _, _, _, .int => .int
  | _, _, _, .bv h => .bv h
  | _, _, hb, .ptr h => .ptr (app_left h (by simpa [bddA] using hb))
  | _, _, hb, .slice h => .slice (app_left h (by simpa [bddA] using hb))
  | _, _, hb, .func h => .func (RelL.shrink (by simpa [bddA] using hb) h)
  | _, _, hb, .agg h => .agg (RelL.shrink (by simpa [bddA] using hb) h)
  | _, _, hb, .tuple h => .tuple (RelL.shrink (by simpa [bddA] using hb) h)
  | _, _, _, .raw => .raw
  | _, _, _, .rsl h hc => .rsl h hc
  | _, _, _, .rptr h ha hi => .rptr h ha hi
theorem RelL.shrink {ρ σ : List Nat} : ∀ {v : List AV} {V : List Value}, bddL ρ.length v = true → RelL R (ρ ++ σ) v V → RelL R ρ v V
  | _, _, _, .nil => .nil
  | _, _, hb, .cons h hs => by
    simp only [bddL, Bool.and_eq_true] at hb
    exact .cons (Rel.shrink hb.1 h) (RelL.shrink hb.2 hs)
end
theorem RelB.shrink {ρ σ : List Nat} : ∀ {H : List ABlk} {Hr : List Block}, bddH ρ.length H = true → RelB R (ρ ++ σ) H Hr → RelB R ρ H Hr
  | _, _, _, .nil => .nil
  | _, _, hb, .cons h hs => by
    simp only [bddH, Bool.and_eq_true] at hb
    exact .cons (RelL.shrink hb.1 h) (RelB.shrink hb.2 hs)
theorem RelB.take {ρ : List Nat} : ∀ (n : Nat) {H : List ABlk} {Hr : List Block}, RelB R ρ H Hr → RelB R ρ (H.take n) (Hr.take n)
  | 0, _, _, _ => .nil
  | n + 1, _, _, .nil => .nil
  | n + 1, _, _, .cons h hs => .cons h (RelB.take n hs)
theorem RelL.of_plains' {ρ : List Nat} {v : List AV} {V : List Value} (h : AV.plains? v = some V) : RelL R ρ v V := RelL.of_plains h
def memN (l : Nat) : List Nat → Bool
  | [] => false
  | x :: r => Nat.beq l x || memN l r
def endOf (id : Nat) : AExit → Option Bool
  | .normal => some false
  | .exit j => bif Nat.beq j id then some true else none
  | _ => none
def rndK (br : Bool) (id n0 : Nat) (H' : List ABlk) : AExit → ASt → Prop := fun e st => (endOf id e, st.m.H.take n0, bddH n0 (st.m.H.take n0), st.m.ds) = (some br, H', true, ([] : List Bool))
abbrev rndR (br : Bool) (H' : List ABlk) : Option Bool × List ABlk × Bool × List Bool := (some br, H', true, [])
/-- A round: the loop's variables are laid; then the body. -/
def evR (E : Env) (nf n0 : Nat) (assign body : Code) (st : ASt) (K : AExit → ASt → Prop) : Prop :=
  evT E nf (.code assign) st fun e st1 => match e with
    | .normal => evT E nf (.code body) ⟨st1.tl, ⟨st1.m.H, st1.m.ds, fun l => st.m.wr l && (Nat.blt l n0 || Nat.ble st1.m.H.length l)⟩⟩ K
    | _ => False
theorem Stp.keep {wr : Nat → Bool} {A B : List Block} {u v : World} (h : Stp wr A u B v) {S : Nat → Prop} (hs : ∀ k, S k → k < u.heap.size → ∀ l, (nums A)[l]? = some k → wr l = false) : Keep S u v :=
  ⟨h.os, h.tape, h.output, h.size, fun k hk hl => h.block k hl (hs k hk hl)⟩
def Sfz (fz : List Nat) (Hr : List Block) (w : World) : Nat → Prop := fun k => k < w.heap.size ∧ ∀ l, (nums Hr)[l]? = some k → memN l fz = true
def Mem (R : Rws) (wr : Nat → Bool) (Hr : List Block) (w : World) (H : List ABlk) (V : World) : Prop := ∃ Hk, nums Hk = nums Hr ∧ RelB R (nums Hr) H Hk ∧ Own Hk V ∧ Stp wr Hr w Hk V
theorem Stp.any {wr : Nat → Bool} {Hr B : List Block} {w V V' : World} {row : Option Nat} (h : Stp wr Hr w B V) (hg : V.grownBy V' row) (hr : ∀ r, row = some r → w.heap.size ≤ r) : Stp wr Hr w B V' :=
  ⟨hg.os.trans h.os, hg.tape.trans h.tape, hg.output.trans h.output, Nat.le_trans h.size hg.size, h.ext, fun k hk hl => (hg.block k (Nat.lt_of_lt_of_le hk h.size) (fun e => by have := hr k e.symm; omega)).trans (h.block k hk hl)⟩
theorem nums_lt {H : List Block} {w : World} (h : Own H w) {l k : Nat} (hl : (nums H)[l]? = some k) : k < w.heap.size := by
  have hm := List.mem_of_getElem? hl
  simp only [nums, List.mem_map] at hm
  obtain ⟨p, hp, rfl⟩ := hm
  exact (h p hp).lt
theorem mem_any {wr : Nat → Bool} {Hr : List Block} {w : World} (hO : Own Hr w) {Hk : Nat → List ABlk} {p : Nat → Prop} : AnyFrom w.heap.size (fun k V => p k ∧ Mem R wr Hr w (Hk k) V) := by
  rintro k V V' row ⟨hp, Hr1, h1, h2, h3, h4⟩ hg hr
  refine ⟨hp, Hr1, h1, h2, ?_, h4.any hg hr⟩
  refine any_own (β := Unit) (B := w.heap.size) (H := fun _ => Hr1) (fun _ q hq => ?_) () V V' row h3 hg hr
  obtain ⟨l, hl, hq'⟩ := List.mem_iff_getElem.1 hq
  have : (nums Hr1)[l]? = some q.1 := by simp [nums, List.getElem?_eq_getElem hl, hq']
  rw [h1] at this
  exact nums_lt hO this
def Ends (br : Nat → Bool) (len k : Nat) : Prop := (k = len ∧ ∀ j, j < k → br j = false) ∨ (0 < k ∧ k ≤ len ∧ br (k - 1) = true ∧ ∀ j, j < k - 1 → br j = false)
def isRg : Code → Bool
  | .block _ (.rangeFunc _ _ _ _) => true
  | _ => false
def rgI : Code → Nat
  | .block id (.rangeFunc _ _ _ _) => id
  | _ => 0
def rgG : Code → Operand
  | .block _ (.rangeFunc g _ _ _) => g
  | _ => .tmp 0
def rgP : Code → Array Tmp
  | .block _ (.rangeFunc _ ps _ _) => ps
  | _ => #[]
def rgA : Code → Code
  | .block _ (.rangeFunc _ _ a _) => a
  | _ => .skip
def rgB : Code → Code
  | .block _ (.rangeFunc _ _ _ b) => b
  | _ => .skip
def isSq : Code → Bool
  | .seq _ _ => true
  | _ => false
def sL : Code → Code
  | .seq x _ => x
  | _ => .skip
def sR : Code → Code
  | .seq _ y => y
  | _ => .skip
theorem wp_parts {P : Program} {c : Code} {Q : Exit → Act → World → Prop} {a : Act} {w : World} (hc : isSq c = true) (h : (sL c).wp P (Exit.then ((sR c).wp P Q) Q) a w) : c.wp P Q a w := by
  unfold isSq at hc
  split at hc
  · exact wp_seq h
  · cases hc
section
variable {E : Env} (hE : EnvOK E) {Ds : List Nat} {n0 : Nat} {w0 : World}
include hE
theorem ev_range (nf : Nat) {α : Type} {xs : List α} {encs : Nat → α → Array Value} {id : Nat} {g : Operand} {ps : Array Tmp} {assign body : Code} {gf : Nat} {caps : List AV} {live : List (Nat × AV)} {n : Nat} {m : AM} {a : Act} {Hr : List Block} {w : World} {Q : Exit → Act → World → Prop}
    (hg : ∀ r, evO (pat live r 0 n) g = some (.func (.func gf) caps)) (eg : Enters E.P gf) (hin : inB assign = true) (hin2 : inB body = true) (fz : List Nat)
    (hseq : ∀ lb, RelL E.rows (nums Hr) caps lb → Seq E.P gf lb.toArray encs xs (Sfz fz Hr w) w)
    (xA : Nat → α → List AV) (hx : ∀ k x, xs[k]? = some x → AV.plains? (xA k x) = some (encs k x).toList) (hps : ∀ k x, (encs k x).size = ps.size)
    (Hk : Nat → List ABlk) (h0 : Hk 0 = m.H) (hlen : ∀ k, (Hk k).length = m.H.length) (ds : Nat → List Bool) (br : Nat → Bool)
    (hround : ∀ k x r, xs[k]? = some x → (∀ j, j < k → br j = false) → Is (evR E nf m.H.length assign body ⟨setps (pat live r 0 n) ps.toList (xA k x), ⟨Hk k, ds k, fun l => m.wr l && !memN l fz⟩⟩ (rndK (br k) id m.H.length (Hk (k + 1)))))
    (hP : PatSt E.rows (Ds.map markD) live n m a Hr) (hB : Bun E.rows Ds n0 w0 Hr w)
    (hk : ∀ k a' Hr' w', Ends br xs.length k → PatSt E.rows ((w.heap.size :: Ds).map markD) live n ⟨Hk k, [], m.wr⟩ a' Hr' → Bun E.rows (w.heap.size :: Ds) n0 w0 Hr' w' → Stp m.wr Hr w Hr' w' → Q .normal a' w') :
    (Code.block id (.rangeFunc g ps assign body)).wp E.P Q a w := by
  obtain ⟨r, vs, rfl, ht, hBl, hnd⟩ := hP
  have hbl := hBl.len
  have hfl := evO_sound (D := Ds.map markD) ht _ _ (hg r)
  generalize hge : (⟨vs.toArray, Ds.map markD⟩ : Act).eval g = gv at hfl
  cases hfl with | func hcaps =>
  rename_i lb
  refine wp_block ?_
  refine wp_each_block (w0 := w) (xs := xs) (encs := encs) (S := Sfz fz Hr w) hge (fun args w => eg args w) (hseq lb hcaps) (fun k hk => hk.1) (Keep.refl _ _) hps
    (fun k V => (∀ j, j < k → br j = false) ∧ Mem E.rows m.wr Hr w (Hk k) V) (fun k V => (0 < k ∧ br (k - 1) = true ∧ ∀ j, j < k - 1 → br j = false) ∧ Mem E.rows m.wr Hr w (Hk k) V) (mem_any hB.own.1) (mem_any hB.own.1)
    ⟨fun j hj => absurd hj (Nat.not_lt_zero _), Hr, rfl, by rw [h0]; exact hBl, hB.own.1, .refl _ _ _⟩ ?round ?hend
  case round =>
    rintro l k x V hxk ⟨hbr, Hk_r, hn1, hrel, hown, hstp⟩ hl
    have hstpO : OwnK E.rows Hk_r V := ⟨hown, hstp.rd hB.own.2⟩
    have hrd := hround k x r hxk hbr
    have hR0 : RelSt E.rows [] ⟨setps (pat live r 0 n) ps.toList (xA k x), ⟨Hk k, ds k, fun l => m.wr l && !memN l fz⟩⟩ { tmps := (ps.zip (encs k x)).foldl (fun (t : Array Value) (x : Tmp × Value) => t.setIfInBounds x.1 x.2) vs.toArray, defers := [] } Hk_r := by
      refine ⟨setvs vs ps.toList (encs k x).toList, ?_, ?_, ?_, by rw [hn1]; exact hnd⟩
      · have := setvs_act ps.toList (encs k x).toList vs
        rw [Array.toArray_toList, Array.toArray_toList] at this
        rw [this]
      · rw [hn1]; exact setps_rel ht (RelL.of_plains (hx k x hxk))
      · rw [hn1]; exact hrel
    have hrd' := hrd.is
    unfold evR at hrd'
    obtain ⟨e, st1, hk1, hwr1, hs1⟩ := ev_in hE l nf assign _ _ hin hrd'
    cases e <;> simp only at hk1
    obtain ⟨e2, st2, hk2, hwr2, hs2⟩ := ev_in hE l nf body _ _ hin2 hk1
    refine wpIn_mono (hs1 _ Hk_r V hR0 hstpO) ?_
    rintro e' a1 V1 ⟨rfl, Hr1, hR1, hO1, hS1⟩
    have hS1w : Stp m.wr Hr w Hr1 V1 := hstp.trans (hS1.mono (fun l hl => by simp [hl]))
    have hSk : ∀ b, (Sfz fz Hr w b ∨ w.heap.size ≤ b) → b < V.heap.size → ∀ l, (nums Hk_r)[l]? = some b → (m.wr l && !memN l fz) = false := by
      rintro b (⟨_, hb⟩ | hb) _ l hl
      · rw [hn1] at hl; rw [hb l hl]; simp
      · rw [hn1] at hl; have := nums_lt hB.own.1 hl; omega
    obtain ⟨σ, hσ, hσ2⟩ := hS1.ext
    have hlen1 := hR1
    obtain ⟨vs1, _, _, hBl1, hnd1⟩ := hlen1
    have hH1 : (nums Hr1).length = st1.m.H.length := by rw [← hBl1.len]; simp [nums]
    have hHr0 : (nums Hr).length = m.H.length := by rw [← hbl]; simp [nums]
    refine ⟨hS1.keep hSk, fun V2 => Own Hr1 V2 ∧ Stp m.wr Hr w Hr1 V2, ?_, ⟨hO1.1, hS1w⟩, ?_⟩
    · intro u W W' row ⟨ho, hst⟩ hg hr
      exact ⟨ownFrom_own (β := Unit) (H := fun _ => Hr1) () W W' row ho hg hr, hst.any hg (fun r e => (hr r e).1)⟩
    · rintro V2 ⟨ho, hst⟩
      have hbod : ∀ b, (Sfz fz Hr w b ∨ w.heap.size ≤ b) → b < V2.heap.size → ∀ l, (nums Hr1)[l]? = some b → ((m.wr l && !memN l fz) && (Nat.blt l m.H.length || Nat.ble st1.m.H.length l)) = false := by
        intro b hb _ l hl
        rw [hσ, hn1] at hl
        rcases Nat.lt_or_ge l (nums Hr).length with hlt | hge'
        · rw [List.getElem?_append_left hlt] at hl
          rw [hSk b hb (by have := nums_lt hB.own.1 hl; have := hstp.size; omega) l (by rw [hn1]; exact hl)]; rfl
        · have hll : l < st1.m.H.length := by
            rw [← hH1, hσ, hn1]; exact (List.getElem?_eq_some_iff.1 hl).1
          have e1 : Nat.blt l m.H.length = false := by rw [Bool.eq_false_iff]; intro h; rw [Nat.blt_eq] at h; omega
          have e2 : Nat.ble st1.m.H.length l = false := by rw [Bool.eq_false_iff]; intro h; have := Nat.le_of_ble_eq_true h; omega
          rw [e1, e2]; simp
      refine wpIn_mono (hs2 a1 Hr1 V2 hR1 ⟨ho, hst.rd hB.own.2⟩) ?_
      rintro e' a2 V3 ⟨rfl, Hr2, hR2, hO2, hS2⟩
      have hS2w : Stp m.wr Hr w Hr2 V3 := hst.trans (hS2.mono (fun l hl => by simp [hl]))
      have hmem : ∀ {H' : List ABlk}, st2.m.H.take m.H.length = H' → bddH m.H.length (st2.m.H.take m.H.length) = true → Mem E.rows m.wr Hr w H' V3 := by
        intro H' hH' hbd
        obtain ⟨σ2, hs2', hs3⟩ := hS2w.ext
        obtain ⟨vs2, _, _, hBl2, hnd2⟩ := hR2
        have hnt : nums (Hr2.take m.H.length) = nums Hr := by
          have : nums (Hr2.take m.H.length) = (nums Hr2).take m.H.length := by simp [nums, List.map_take]
          rw [this, hs2', ← hHr0, List.take_left]
        refine ⟨Hr2.take m.H.length, hnt, ?_, fun p hp => hO2.1 p (List.mem_of_mem_take hp), ?_⟩
        · subst hH'
          rw [hs2'] at hBl2
          refine RelB.shrink ?_ (hBl2.take m.H.length)
          rw [hHr0]; exact hbd
        · exact ⟨hS2w.os, hS2w.tape, hS2w.output, hS2w.size, ⟨[], by rw [hnt]; simp, by simp⟩, hS2w.block⟩
      unfold rndK at hk2
      simp only [Prod.mk.injEq] at hk2
      obtain ⟨q1, q2, q3, q4⟩ := hk2
      cases e2 <;> simp only [endOf] at q1
      case normal =>
        have hb0 : br k = false := by simpa using q1.symm
        refine ⟨hS2.keep hbod, fun j hj => ?_, hmem q2 q3⟩
        by_cases hjk : j = k
        · rw [hjk]; exact hb0
        · exact hbr j (by omega)
      case exit j =>
        cases hj : Nat.beq j id <;> simp only [hj, cond_true, cond_false] at q1
        · cases q1
        · have hb0 : br k = true := by simpa using q1.symm
          refine ⟨hS2.keep (fun b hb hl => hbod b (.inr hb) hl), by rw [Nat.eq_of_beq_eq_true hj], ⟨Nat.succ_pos _, by simpa using hb0, fun j hj => hbr j (by simpa using hj)⟩, hmem q2 q3⟩
      all_goals cases q1
  case hend =>
    intro k W hend hD
    have : Ends br xs.length k ∧ Mem E.rows m.wr Hr w (Hk k) W := by
      rcases hend with ⟨h1, h2, h3⟩ | ⟨h1, ⟨h2, h3, h4⟩, h5⟩
      · exact ⟨.inl ⟨h1, h2⟩, h3⟩
      · exact ⟨.inr ⟨h2, h1, h3, h4⟩, h5⟩
    obtain ⟨hends, Hk_r, hn1, hrel, hown, hstp⟩ := this
    have hOK : OwnK E.rows Hk_r W := ⟨hown, hstp.rd hB.own.2⟩
    have hB' := hB.stp hOK hstp
    refine hk k _ Hk_r W hends ⟨r, vs, rfl, by rw [hn1]; exact ht, by rw [hn1]; exact hrel, by rw [hn1]; exact hnd⟩ ⟨hOK, fun D hD' => ?_, ?_, hB'.fresh, hB'.below, hB'.size⟩ hstp
    · rcases List.mem_cons.1 hD' with rfl | hD'
      · refine ⟨hD, fun hm => ?_, hB.size⟩
        rw [hn1] at hm
        obtain ⟨l, hl, hl2⟩ := List.mem_iff_getElem.1 hm
        have := nums_lt hB.own.1 (show (nums Hr)[l]? = some w.heap.size by rw [List.getElem?_eq_getElem hl, hl2])
        omega
      · exact hB'.marks D hD'
    · refine List.nodup_cons.2 ⟨fun hm => ?_, hB.nodup⟩
      have := (Array.getElem?_eq_some_iff.1 (hB.marks _ hm).1).1
      omega
/-- The same, where the code is told by its parts. -/
theorem ev_rangeAt (nf : Nat) {α : Type} {xs : List α} {encs : Nat → α → Array Value} {c : Code} {gf : Nat} {caps : List AV} {live : List (Nat × AV)} {n : Nat} {m : AM} {a : Act} {Hr : List Block} {w : World} {Q : Exit → Act → World → Prop}
    (hc : isRg c = true) (hg : ∀ r, evO (pat live r 0 n) (rgG c) = some (.func (.func gf) caps)) (eg : Enters E.P gf) (hin : (inB (rgA c) && inB (rgB c)) = true) (fz : List Nat)
    (hseq : ∀ lb, RelL E.rows (nums Hr) caps lb → Seq E.P gf lb.toArray encs xs (Sfz fz Hr w) w)
    (xA : Nat → α → List AV) (hx : ∀ k x, xs[k]? = some x → AV.plains? (xA k x) = some (encs k x).toList) (hps : ∀ k x, (encs k x).size = (rgP c).size)
    (Hk : Nat → List ABlk) (h0 : Hk 0 = m.H) (hlen : ∀ k, (Hk k).length = m.H.length) (ds : Nat → List Bool) (br : Nat → Bool)
    (hround : ∀ k x r, xs[k]? = some x → (∀ j, j < k → br j = false) → Is (evR E nf m.H.length (rgA c) (rgB c) ⟨setps (pat live r 0 n) (rgP c).toList (xA k x), ⟨Hk k, ds k, fun l => m.wr l && !memN l fz⟩⟩ (rndK (br k) (rgI c) m.H.length (Hk (k + 1)))))
    (hP : PatSt E.rows (Ds.map markD) live n m a Hr) (hB : Bun E.rows Ds n0 w0 Hr w)
    (hk : ∀ k a' Hr' w', Ends br xs.length k → PatSt E.rows ((w.heap.size :: Ds).map markD) live n ⟨Hk k, [], m.wr⟩ a' Hr' → Bun E.rows (w.heap.size :: Ds) n0 w0 Hr' w' → Stp m.wr Hr w Hr' w' → Q .normal a' w') : c.wp E.P Q a w := by
  unfold isRg at hc
  split at hc
  · rw [Bool.and_eq_true] at hin
    exact ev_range hE nf hg eg hin.1 hin.2 fz hseq xA hx hps Hk h0 hlen ds br hround hP hB hk
  · cases hc
end
/-- A known block. -/
theorem blk_of {H : List ABlk} {Hr : List Block} {w : World} (hB : RelB R (nums Hr) H Hr) (hO : Own Hr w) {l : Nat} {cs : List AV} {t : TypeId} {Vs : List Value} (hl : H[l]? = some (cs, t)) (hv : AV.vals? cs = some Vs) : ∃ b, (nums Hr)[l]? = some b ∧ Blk w b Vs.toArray t := by
  obtain ⟨b, Cs, e1, e2⟩ := hB.get hl
  have := e2.vals hv
  subst this
  exact ⟨b, nums_get e1, hO _ (List.mem_of_getElem? e1)⟩
theorem sfz_of {fz : List Nat} {Hr : List Block} {w : World} (hn : (nums Hr).Nodup) (hO : Own Hr w) {l b : Nat} (hl : (nums Hr)[l]? = some b) (hm : memN l fz = true) : Sfz fz Hr w b :=
  ⟨nums_lt hO hl, fun l' hl' => by
    have := (List.getElem?_inj (List.getElem?_eq_some_iff.1 hl').1 hn).1 (hl'.trans hl.symm)
    rw [this]; exact hm⟩
/-- Cells that stand for the same. -/
theorem patSt_cells {live : List (Nat × AV)} {n l : Nat} {H : List ABlk} {ds : List Bool} {wr : Nat → Bool} {a : Act} {Hr : List Block} {cs cs' : List AV} {t : TypeId} {Vs : List Value} (hl : H[l]? = some (cs, t)) (h1 : AV.vals? cs = some Vs) (h2 : AV.vals? cs' = some Vs) (h : PatSt R D live n ⟨H, ds, wr⟩ a Hr) : PatSt R D live n ⟨H.set l (cs', t), ds, wr⟩ a Hr := by
  obtain ⟨r, vs, e, ht, hB, hn⟩ := h
  refine ⟨r, vs, e, ht, ?_, hn⟩
  obtain ⟨b, Cs, e1, e2⟩ := hB.get hl
  have := e2.vals h1
  subst this
  have hs := hB.set (l := l) (b := b) (t := t) (RelL.of_vals (ρ := nums Hr) h2)
  have e3 : Hr.set l (b, Cs.toArray, t) = Hr := by
    apply List.ext_getElem?
    intro i
    rw [List.getElem?_set]
    split
    · rename_i he; subst he
      split
      · rw [e1]
      · rename_i hlt; rw [List.getElem?_eq_none (by omega)]
    · rfl
  rwa [e3] at hs
theorem rel_ptr {ρ : List Nat} {l o : Nat} {V : Value} (h : Rel R ρ (.ptr l o) V) : ∃ b, ρ[l]? = some b ∧ V = .pointer (some ⟨b, o, none⟩) := by cases h; exact ⟨_, by assumption, rfl⟩
end
end Go.Proofs.Ytiglfbnicihpmaa
