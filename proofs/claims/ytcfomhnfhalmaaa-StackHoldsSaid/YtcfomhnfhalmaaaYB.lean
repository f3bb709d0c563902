/- Words, contracts, laws and ranges by the evaluator. No program of its own. No condition. -/
import Derived.Test.YtcfomhnfhalmaaaYC
import Derived.Test.YtcfomhnfhalmaaaRngB
import Derived.Test.YtcfomhnfhalmaaaArrEq
import Derived.Test.YtcfomhnfhalmaaaWords
import Derived.LoopN
import Derived.Maps.RangeRun
set_option linter.unusedVariables false
set_option linter.unusedSimpArgs false
namespace Go.Proofs.Ytcfomhnfhalmaaa
open Go.RowKit

section
variable {D : List Deferred} {R : Rws}
def inB : Code → Bool
  | .skip | .exit _ | .goto _ | .label _ | .ret => true
  | .region _ ops _ => noDefer ops.toList
  | .seq a b => inB a && inB b
  | .cond _ a b => inB a && inB b
  | .block _ c => inB c
  | _ => false
theorem rch_out {e : AExit} {st' : ASt} {wr : Nat → Bool} {Hr : List RBlk} {w : World} : ¬ LetsOut (Rch R D e st' wr Hr w) := by
  rintro ⟨a, w, h, _⟩
  cases e <;> simp [AExit.real] at h
theorem ev_in {E : Env} (hE : EnvOK E) (lr : Nat) : ∀ n c st K, inB c = true → evT E n (.code c) st K → ∃ e st', K e st' ∧ st'.m.wr = st.m.wr ∧ ∀ {D : List Deferred} a Hr w, RelSt E.rows D st a Hr → OwnK E.rows st.m.H Hr w → c.wpIn (Fence.wide.inRound lr) 0 E.P (Rch E.rows D e st' st.m.wr Hr w) a w
  | 0, c, st, K, _, h => h.elim
  | n + 1, c, st, K, hi, h => by
    have ih := ev_in hE lr n
    have hC := call_ok hE (ev_sound hE n)
    cases c with
    | skip => exact ⟨.normal, st, h, rfl, fun a Hr w hR hO => wpIn_skip ⟨rfl, Hr, hR, hO, .refl _ _ _⟩⟩
    | exit id => exact ⟨.exit id, st, h, rfl, fun a Hr w hR hO => wpIn_exit ⟨rfl, Hr, hR, hO, .refl _ _ _⟩⟩
    | goto l => exact ⟨.goto l, st, h, rfl, fun a Hr w hR hO => wpIn_goto ⟨rfl, Hr, hR, hO, .refl _ _ _⟩⟩
    | label l => exact ⟨.normal, st, h, rfl, fun a Hr w hR hO => wpIn_label ⟨rfl, Hr, hR, hO, .refl _ _ _⟩⟩
    | ret => exact ⟨.ret, st, h, rfl, fun a Hr w hR hO => wpIn_ret ⟨rfl, Hr, hR, hO, .refl _ _ _⟩⟩
    | region id ops d =>
      have hd : noDefer ops.toList = true := hi
      cases d with
      | false =>
        simp only [evT] at h
        obtain ⟨st', hk, hlo, hs⟩ := list_sound hE hC _ _ _ _ h
        refine ⟨.normal, st', hk, hlo, fun a Hr w hR hO => ?_⟩
        have h2 := hs a Hr w hR hO (Rch _ _ .normal st' st.m.wr Hr w) fun a' Hr' w' hR' hO' hS => ⟨rfl, Hr', hR', hO', hS⟩
        have := regIn (id := id) (l := lr) hd rch_out h2
        rwa [Array.toArray_toList] at this
      | true =>
        simp only [evT] at h
        obtain ⟨st', hk, hlo, hs⟩ := drawn_in hE hC lr (id := id) hd h
        refine ⟨.normal, st', hk, hlo, fun a Hr w hR hO => ?_⟩
        have := hs a Hr w hR hO (Rch _ _ .normal st' st.m.wr Hr w) rch_out fun a' Hr' w' hR' hO' hS => ⟨rfl, Hr', hR', hO', hS⟩
        rwa [Array.toArray_toList] at this
    | seq x y =>
      have hi2 : (inB x && inB y) = true := hi
      rw [Bool.and_eq_true] at hi2
      simp only [evT] at h
      obtain ⟨e1, st1, h1, hlo1, h2⟩ := ih _ _ _ hi2.1 h
      cases e1 <;> simp only at h1
      case normal =>
        obtain ⟨e, st', hk, hlo, hs⟩ := ih _ _ _ hi2.2 h1
        refine ⟨e, st', hk, hlo.trans hlo1, fun a Hr w hR hO => wpIn_seq (wpIn_mono (h2 a Hr w hR hO) ?_)⟩
        rintro e' a1 w1 ⟨rfl, Hr1, hR1, hO1, hS1⟩
        refine wpIn_mono (hs a1 Hr1 w1 hR1 hO1) fun e2 a2 w2 hq => ?_
        rw [hlo1] at hq
        exact hq.over hS1
      all_goals
        refine ⟨_, st1, h1, hlo1, fun a Hr w hR hO => wpIn_seq (wpIn_mono (h2 a Hr w hR hO) ?_)⟩
        rintro e' a1 w1 ⟨rfl, hq⟩
        exact ⟨rfl, hq⟩
    | cond c x y =>
      have hi2 : (inB x && inB y) = true := hi
      rw [Bool.and_eq_true] at hi2
      simp only [evT] at h
      split at h
      · rename_i z hc
        cases z <;> simp only [cond_true, cond_false] at h
        · obtain ⟨e, st', hk, hlo, hs⟩ := ih _ _ _ hi2.2 h
          exact ⟨e, st', hk, hlo, fun a Hr w hR hO => wpIn_cond (cond_bool hR hc) (hs a Hr w hR hO)⟩
        · obtain ⟨e, st', hk, hlo, hs⟩ := ih _ _ _ hi2.1 h
          exact ⟨e, st', hk, hlo, fun a Hr w hR hO => wpIn_cond (cond_bool hR hc) (hs a Hr w hR hO)⟩
      · rename_i z hc
        split at h
        · rename_i d ds hds
          obtain ⟨rfl, h⟩ := h
          cases z <;> simp only [cond_true, cond_false] at h
          · obtain ⟨e, st', hk, hlo, hs⟩ := ih _ _ _ hi2.2 h
            exact ⟨e, st', hk, hlo, fun a Hr w hR hO => wpIn_cond (cond_bool hR hc) (hs a Hr w (refine_sound hR hc) hO)⟩
          · obtain ⟨e, st', hk, hlo, hs⟩ := ih _ _ _ hi2.1 h
            exact ⟨e, st', hk, hlo, fun a Hr w hR hO => wpIn_cond (cond_bool hR hc) (hs a Hr w (refine_sound hR hc) hO)⟩
        · exact h.elim
      · exact h.elim
    | block id c =>
      simp only [evT] at h
      obtain ⟨e1, st1, h1, hlo1, h2⟩ := ih c _ _ hi h
      cases e1 <;> simp only at h1
      case exit j =>
        cases hj : Nat.beq j id <;> simp only [hj, cond_true, cond_false] at h1
        · refine ⟨.exit j, st1, h1, hlo1, fun a Hr w hR hO => wpIn_block (wpIn_mono (h2 a Hr w hR hO) ?_)⟩
          rintro e' a1 w1 ⟨rfl, hq⟩
          have : j ≠ id := Nat.ne_of_beq_eq_false hj
          simp only [AExit.real, Exit.inBlock, if_neg this]
          exact ⟨rfl, hq⟩
        · refine ⟨.normal, st1, h1, hlo1, fun a Hr w hR hO => wpIn_block (wpIn_mono (h2 a Hr w hR hO) ?_)⟩
          rintro e' a1 w1 ⟨rfl, hq⟩
          have := Nat.eq_of_beq_eq_true hj
          simp only [AExit.real, Exit.inBlock, if_pos this]
          exact ⟨rfl, hq⟩
      all_goals
        refine ⟨_, st1, h1, hlo1, fun a Hr w hR hO => wpIn_block (wpIn_mono (h2 a Hr w hR hO) ?_)⟩
        rintro e' a1 w1 ⟨rfl, hq⟩
        exact ⟨rfl, hq⟩
    | _ => cases hi
end

section
/-- What is computed is what is wanted. -/
structure Is (p : Prop) : Prop where
  is : p
/-- So much must come out so. -/
def allE : List (Bool × Bool) → Prop → Prop
  | [], p => p
  | (b, c) :: r, p => b = c ∧ allE r p
def AllE : List (Bool × Bool) → Prop
  | [] => True
  | (b, c) :: r => b = c ∧ AllE r
theorem allE_of : ∀ {l : List (Bool × Bool)} {p : Prop}, AllE l → p → allE l p
  | [], _, _, h => h
  | (_, _) :: _, _, ⟨h, hs⟩, hp => ⟨h, allE_of hs hp⟩
theorem ev_cond (l : List (Bool × Bool)) {p : Prop} {r : AV} (h : p = allE l (r = r)) (hl : AllE l) : Is p := ⟨h ▸ allE_of hl rfl⟩
theorem ev_lit {p : Prop} {r : AV} (h : p = (r = r)) : Is p := ⟨h ▸ rfl⟩

def limb (x : BitVec 256) (q : Nat) : BitVec 64 := BitVec.ofNat 64 (x.toNat / 2 ^ (64 * q))
def mkW (a b c d : BitVec 64) : BitVec 256 := BitVec.ofNat 256 (a.toNat + 18446744073709551616 * b.toNat + 340282366920938463463374607431768211456 * c.toNat + 6277101735386680763835789423207666416102355444464034512896 * d.toNat)
abbrev re (x : BitVec 256) : BitVec 256 := mkW (limb x 0) (limb x 1) (limb x 2) (limb x 3)
theorem limb_L (x : BitVec 256) (q : Nat) : ((limb x q).toNat : Int) = L x q := by
  rw [L_eq]; unfold limb; rw [BitVec.toNat_ofNat]
theorem mkW_nat (a b c d : BitVec 64) : (mkW a b c d).toNat = a.toNat + 18446744073709551616 * b.toNat + 340282366920938463463374607431768211456 * c.toNat + 6277101735386680763835789423207666416102355444464034512896 * d.toNat := by
  have ha := a.isLt
  have hb := b.isLt
  have hc := c.isLt
  have hd := d.isLt
  unfold mkW
  rw [BitVec.toNat_ofNat]
  apply Nat.mod_eq_of_lt
  omega
theorem limb_mkW (a b c d : BitVec 64) : limb (mkW a b c d) 0 = a ∧ limb (mkW a b c d) 1 = b ∧ limb (mkW a b c d) 2 = c ∧ limb (mkW a b c d) 3 = d := by
  have ha := a.isLt
  have hb := b.isLt
  have hc := c.isLt
  have hd := d.isLt
  have h := mkW_nat a b c d
  unfold limb
  refine ⟨?_, ?_, ?_, ?_⟩ <;>
    (apply BitVec.eq_of_toNat_eq; rw [BitVec.toNat_ofNat, h]; simp only [Nat.reducePow, Nat.reduceMul]; omega)
theorem W_limbs (x : BitVec 256) : W x = .agg #[.int .u64 (limb x 0).toNat, .int .u64 (limb x 1).toNat, .int .u64 (limb x 2).toNat, .int .u64 (limb x 3).toNat] := by
  simp only [limb_L]
theorem re_eq (x : BitVec 256) : re x = x := by
  obtain ⟨h0, h1, h2, h3⟩ := limb_mkW (limb x 0) (limb x 1) (limb x 2) (limb x 3)
  apply L_ext <;> rw [← limb_L, ← limb_L]
  · rw [h0]
  · rw [h1]
  · rw [h2]
  · rw [h3]
theorem W_mkW (a b c d : BitVec 64) : W (mkW a b c d) = .agg #[.int .u64 a.toNat, .int .u64 b.toNat, .int .u64 c.toNat, .int .u64 d.toNat] := by
  obtain ⟨h0, h1, h2, h3⟩ := limb_mkW a b c d
  rw [W_limbs, h0, h1, h2, h3]
def b64 (x : BitVec 64) : AV := .bv .u64 x
def wA (x : BitVec 256) : AV := .agg [b64 (limb x 0), b64 (limb x 1), b64 (limb x 2), b64 (limb x 3)]
abbrev wC (x : BitVec 256) : List AV := [b64 (limb x 0), b64 (limb x 1), b64 (limb x 2), b64 (limb x 3)]
theorem vals_wC (x : BitVec 256) : AV.vals? (wC x) = some [.int .u64 (L x 0), .int .u64 (L x 1), .int .u64 (L x 2), .int .u64 (L x 3)] := by simp only [← limb_L]; rfl
theorem told_wA (x : BitVec 256) : (wA x).told? = some (W x) := by rw [W_limbs]; rfl
theorem rel_wA {R : Rws} (ρ : Nums) (x : BitVec 256) : Rel R ρ (wA x) (W x) := by
  rw [W_limbs]
  exact .agg (.cons (.bv rfl) (.cons (.bv rfl) (.cons (.bv rfl) (.cons (.bv rfl) .nil))))
def asB64 (v : AV) : Option (BitVec 64) := v.asBv .u64
def asW : AV → Option (BitVec 256)
  | .agg [c0, c1, c2, c3] => match asB64 c0, asB64 c1, asB64 c2, asB64 c3 with
    | some a, some b, some c, some d => some (mkW a b c d)
    | _, _, _, _ => none
  | _ => none
theorem asW_rel {R : Rws} {ρ : Nums} {v : AV} {V : Value} {x : BitVec 256} (h : asW v = some x) (hr : Rel R ρ v V) : V = W x := by
  unfold asW at h
  split at h
  · split at h
    · rename_i a b c d h0 h1 h2 h3
      cases h
      cases hr with | agg hr =>
      cases hr with | cons r0 hr =>
      cases hr with | cons r1 hr =>
      cases hr with | cons r2 hr =>
      cases hr with | cons r3 hr =>
      cases hr
      rw [asBv_sound h0 r0 rfl, asBv_sound h1 r1 rfl, asBv_sound h2 r2 rfl, asBv_sound h3 r3 rfl, W_mkW]
      rfl
    · cases h
  · cases h
def asN : AV → Option (BitVec 64) := asB64
theorem asN_rel {R : Rws} {ρ : Nums} {v : AV} {V : Value} {x : BitVec 64} (h : asN v = some x) (hr : Rel R ρ v V) : V = .int .u64 (x.toNat : Int) := asBv_sound h hr rfl
def asI (k : IntKind) : AV → Option Int
  | .int k' _ n => if k' = k then some n else none
  | _ => none
theorem asI_rel {R : Rws} {ρ : Nums} {k : IntKind} {v : AV} {V : Value} {x : Int} (h : asI k v = some x) (hr : Rel R ρ v V) : V = .int k x := by
  cases hr <;> simp only [asI] at h <;> try cases h
  split at h
  · rename_i e; subst e; cases h; rfl
  · cases h
def asB : AV → Option Bool
  | .bool _ b => some b
  | _ => none
theorem asB_rel {R : Rws} {ρ : Nums} {v : AV} {V : Value} {x : Bool} (h : asB v = some x) (hr : Rel R ρ v V) : V = .bool x := by
  cases hr <;> simp only [asB] at h <;> cases h
  rfl
abbrev CtrF := List AV → Mem → Option VC
section
variable {R : Rws}
def lookF : List (Nat × CtrF) → Nat → Option CtrF
  | [], _ => none
  | (g, F) :: r, f => bif Nat.beq f g then some F else lookF r f
theorem lookF_ok {P : Program} : ∀ {T : List (Nat × CtrF)}, (∀ p ∈ T, Good P R p.1 p.2) → ∀ f F, lookF T f = some F → Good P R f F
  | [], _, _, _, h => by cases h
  | (g, F) :: r, hT, f, F', h => by
    unfold lookF at h
    cases hb : Nat.beq f g <;> simp only [hb, cond_true, cond_false] at h
    · exact lookF_ok (fun p hp => hT p (List.mem_cons_of_mem _ hp)) f F' h
    · cases h; rw [Nat.eq_of_beq_eq_true hb]; exact hT _ (List.mem_cons_self ..)
theorem good_cons {P : Program} {p : Nat × CtrF} {T : List (Nat × CtrF)} (h : Good P R p.1 p.2) (hT : ∀ p ∈ T, Good P R p.1 p.2) : ∀ q ∈ p :: T, Good P R q.1 q.2 := fun q hq => by
  rcases List.mem_cons.1 hq with rfl | hq
  · exact h
  · exact hT q hq
theorem good_nil {P : Program} : ∀ q ∈ ([] : List (Nat × CtrF)), Good P R q.1 q.2 := fun q hq => by cases hq
section
variable {P : Program} {f : FuncId} (hen : Enters P f)
def ctr0 (r : AV) : CtrF
  | [], _ => some (r, [])
  | _, _ => none
theorem ctr0_ok {r : AV} {V : Value} (hen : Enters P f) (hV : r.told? = some V) (h : ∀ w, Calls P f #[] w fun e w' => e = .returned V ∧ Below w.heap.size w w') : Good P R f (ctr0 r) := by
  refine ⟨hen, fun args H v cs hv _ => ?_⟩
  unfold ctr0 at hv
  split at hv
  · cases hv; exact ⟨V, hV, fun Hr Args ha _ _ w _ => by cases ha; exact h w⟩
  · cases hv
def ctrT {α : Type} (pa : AV → Option α) (F : α → AV) : CtrF
  | [x], _ => match pa x with
    | some x => some (F x, [])
    | none => none
  | _, _ => none
theorem ctrT_ok {α : Type} {pa : AV → Option α} {enc : α → Value} (hr : ∀ {R : Rws} {ρ : Nums} {v : AV} {V : Value} {x : α}, pa v = some x → Rel R ρ v V → V = enc x) {F : α → AV} {V : α → Value} (hen : Enters P f) (hV : ∀ x, (F x).told? = some (V x)) (h : ∀ x w, Calls P f #[enc x] w fun e w' => e = .returned (V x) ∧ Below w.heap.size w w') : Good P R f (ctrT pa F) := by
  refine ⟨hen, fun args H v cs hv _ => ?_⟩
  unfold ctrT at hv
  split at hv
  · split at hv
    · rename_i x hx
      cases hv; exact ⟨_, hV x, fun Hr Args ha _ _ w _ => by cases ha with | cons h1 h2 => cases h2; rw [hr hx h1]; exact h x w⟩
    · cases hv
  · cases hv
def ctrTT {α β : Type} (pa : AV → Option α) (pb : AV → Option β) (F : α → β → AV) : CtrF
  | [x, y], _ => match pa x, pb y with
    | some x, some y => some (F x y, [])
    | _, _ => none
  | _, _ => none
theorem ctrTT_ok {α β : Type} {pa : AV → Option α} {pb : AV → Option β} {ea : α → Value} {eb : β → Value} (hr : ∀ {R : Rws} {ρ : Nums} {v : AV} {V : Value} {x : α}, pa v = some x → Rel R ρ v V → V = ea x) (hs : ∀ {R : Rws} {ρ : Nums} {v : AV} {V : Value} {x : β}, pb v = some x → Rel R ρ v V → V = eb x) {F : α → β → AV} {V : α → β → Value} (hen : Enters P f) (hV : ∀ x y, (F x y).told? = some (V x y)) (h : ∀ x y w, Calls P f #[ea x, eb y] w fun e w' => e = .returned (V x y) ∧ Below w.heap.size w w') : Good P R f (ctrTT pa pb F) := by
  refine ⟨hen, fun args H v cs hv _ => ?_⟩
  unfold ctrTT at hv
  split at hv
  · split at hv
    · rename_i x y hx hy
      cases hv; exact ⟨_, hV x y, fun Hr Args ha _ _ w _ => by cases ha with | cons h1 h2 => cases h2 with | cons h2 h3 => cases h3; rw [hr hx h1, hs hy h2]; exact h x y w⟩
    · cases hv
  · cases hv
def ctrTTT {α β γ : Type} (pa : AV → Option α) (pb : AV → Option β) (pc : AV → Option γ) (F : α → β → γ → AV) : CtrF
  | [x, y, z], _ => match pa x, pb y, pc z with
    | some x, some y, some z => some (F x y z, [])
    | _, _, _ => none
  | _, _ => none
theorem ctrTTT_ok {α β γ : Type} {pa : AV → Option α} {pb : AV → Option β} {pc : AV → Option γ} {ea : α → Value} {eb : β → Value} {ec : γ → Value} (hr : ∀ {R : Rws} {ρ : Nums} {v : AV} {V : Value} {x : α}, pa v = some x → Rel R ρ v V → V = ea x) (hs : ∀ {R : Rws} {ρ : Nums} {v : AV} {V : Value} {x : β}, pb v = some x → Rel R ρ v V → V = eb x)
    (ht : ∀ {R : Rws} {ρ : Nums} {v : AV} {V : Value} {x : γ}, pc v = some x → Rel R ρ v V → V = ec x) {F : α → β → γ → AV} {V : α → β → γ → Value} (hen : Enters P f) (hV : ∀ x y z, (F x y z).told? = some (V x y z)) (h : ∀ x y z w, Calls P f #[ea x, eb y, ec z] w fun e w' => e = .returned (V x y z) ∧ Below w.heap.size w w') : Good P R f (ctrTTT pa pb pc F) := by
  refine ⟨hen, fun args H v cs hv _ => ?_⟩
  unfold ctrTTT at hv
  split at hv
  · split at hv
    · rename_i x y z hx hy hz
      cases hv; exact ⟨_, hV x y z, fun Hr Args ha _ _ w _ => by cases ha with | cons h1 h2 => cases h2 with | cons h2 h3 => cases h3 with | cons h3 h4 => cases h4; rw [hr hx h1, hs hy h2, ht hz h3]; exact h x y z w⟩
    · cases hv
  · cases hv
end
end
/-- == of arrays of numbers. -/
theorem cellsK_rep (k : IntKind) : ∀ xs : List Int, cellsK (List.replicate xs.length k) xs = xs.map (Value.int k)
  | [] => rfl
  | x :: xs => by
    have ih := cellsK_rep k xs
    unfold cellsK at ih ⊢
    rw [List.length_cons, List.replicate_succ, List.zipWith_cons_cons, ih]; rfl
theorem eqT_ints {P : Program} {t e : TypeId} {len : Nat} {k : IntKind} (hu : P.underlying t = some (.array len e)) (he : P.underlying e = some (.int k)) (hs : (P.info? e).map (·.size) = some 1) : EqT P t (List.replicate len k) := by
  intro xs ys hx hy w
  rw [List.length_replicate] at hx hy
  have ex : cellsK (List.replicate len k) xs = xs.map (Value.int k) := by rw [← hx]; exact cellsK_rep k xs
  have ey : cellsK (List.replicate len k) ys = ys.map (Value.int k) := by rw [← hy]; exact cellsK_rep k ys
  rw [ex, ey]
  exact run_equalIn_ints hu he hs 9998 w xs ys hx hy
def lookE : List (Nat × List IntKind) → Nat → Option (List IntKind)
  | [], _ => none
  | (g, F) :: r, f => bif Nat.beq f g then some F else lookE r f
theorem lookE_ok {P : Program} : ∀ {T : List (Nat × List IntKind)}, (∀ p ∈ T, EqT P p.1 p.2) → ∀ f F, lookE T f = some F → EqT P f F
  | [], _, _, _, h => by cases h
  | (g, F) :: r, hT, f, F', h => by
    unfold lookE at h
    cases hb : Nat.beq f g <;> simp only [hb, cond_true, cond_false] at h
    · exact lookE_ok (fun p hp => hT p (List.mem_cons_of_mem _ hp)) f F' h
    · cases h; rw [Nat.eq_of_beq_eq_true hb]; exact hT _ (List.mem_cons_self ..)
theorem eqs_cons {P : Program} {p : Nat × List IntKind} {T : List (Nat × List IntKind)} (h : EqT P p.1 p.2) (hT : ∀ p ∈ T, EqT P p.1 p.2) : ∀ q ∈ p :: T, EqT P q.1 q.2 := fun q hq => by
  rcases List.mem_cons.1 hq with rfl | hq
  · exact h
  · exact hT q hq
theorem eqs_nil {P : Program} : ∀ q ∈ ([] : List (Nat × List IntKind)), EqT P q.1 q.2 := fun q hq => by cases hq
theorem told_WW (x y : BitVec 256) : (AV.tuple [wA x, wA y]).told? = some (.tuple #[W x, W y]) := by rw [W_limbs x, W_limbs y]; rfl
/-- == of words as it is computed. -/
def eqB (x y : BitVec 256) : Bool := (limb x 0 == limb y 0) && ((limb x 1 == limb y 1) && ((limb x 2 == limb y 2) && ((limb x 3 == limb y 3) && true)))
theorem eqB_eq (x y : BitVec 256) : eqB x y = decide (x = y) := by
  rw [Bool.eq_iff_iff]
  unfold eqB
  simp only [Bool.and_eq_true, beq_iff_eq, decide_eq_true_eq, and_true]
  constructor
  · rintro ⟨h0, h1, h2, h3⟩
    rw [← re_eq x, ← re_eq y]
    unfold re
    rw [h0, h1, h2, h3]
  · rintro rfl; exact ⟨rfl, rfl, rfl, rfl⟩
theorem allE_nil : AllE [] := trivial
theorem allE_cons {b c : Bool} {r : List (Bool × Bool)} (h : b = c) (hs : AllE r) : AllE ((b, c) :: r) := ⟨h, hs⟩
def eqZ4 (x : BitVec 256) : Bool := (((limb x 0).toNat : Int) == 0) && ((((limb x 1).toNat : Int) == 0) && ((((limb x 2).toNat : Int) == 0) && ((((limb x 3).toNat : Int) == 0) && true)))
theorem eqB_self (x : BitVec 256) : eqB x x = true := by rw [eqB_eq]; simp
end

section
variable {D : List Deferred} {R : Rws}

/-! ### States of which only what is wanted is known. -/
def look (i : Nat) : List (Nat × AV) → Option AV
  | [] => none
  | (j, v) :: r => bif Nat.beq i j then some v else look i r
def pat (live : List (Nat × AV)) (r : Nat → Value) : Nat → Nat → List AV
  | _, 0 => []
  | i, n + 1 => (match look i live with | some v => v | none => .raw (r i)) :: pat live r (i + 1) n
def Lives (tl : List AV) (live : List (Nat × AV)) : Prop := ∀ i v, look i live = some v → tl[i]? = some v
theorem pat_rel {ρ : Nums} {live : List (Nat × AV)} {vs : List Value} : ∀ {tl : List AV} {i : Nat}, RelL R ρ tl (vs.drop i) → (∀ k v, look (i + k) live = some v → tl[k]? = some v) → RelL R ρ (pat live (fun i => vs.getD i undef) i tl.length) (vs.drop i)
  | [], i, h, _ => by
    generalize hd : vs.drop i = d at h
    cases h
    exact .nil
  | c :: cs, i, h, hl => by
    rcases hd : vs.drop i with _ | ⟨v, r⟩
    · rw [hd] at h; cases h
    · rw [hd] at h
      cases h with | cons h hs =>
      have hr : vs.drop (i + 1) = r := by rw [← List.tail_drop, hd]; rfl
      have hv : vs[i]? = some v := by rw [← List.head?_drop, hd]; rfl
      have ih := pat_rel (tl := cs) (i := i + 1) (by rw [hr]; exact hs) (fun k u hu => by have := hl (k + 1) u (by rw [← hu]; congr 1; omega); simpa using this)
      rw [hr] at ih
      refine .cons ?_ ih
      split
      · rename_i u hu
        have := hl 0 u hu
        simp at this
        subst this; exact h
      · have e : vs.getD i undef = v := by simp [List.getD, hv]
        show Rel R ρ (.raw (vs.getD i undef)) v
        rw [e]; exact .raw
theorem pat_of {ρ : Nums} {tl : List AV} {vs : List Value} (h : RelL R ρ tl vs) {live : List (Nat × AV)} (hl : Lives tl live) : ∃ r, RelL R ρ (pat live r 0 tl.length) vs :=
  ⟨_, by simpa using pat_rel (vs := vs) (i := 0) (tl := tl) (by simpa using h) (fun k v hv => hl k v (by simpa using hv))⟩
theorem lives_of {tl : List AV} : ∀ {live : List (Nat × AV)}, live.map (fun p => tl[p.1]?) = live.map (fun p => some p.2) → Lives tl live
  | [], _, i, v, h => by cases h
  | (j, u) :: r, he, i, v, h => by
    simp only [List.map_cons, List.cons.injEq] at he
    unfold look at h
    cases hb : Nat.beq i j <;> simp only [hb, cond_true, cond_false] at h
    · exact lives_of he.2 i v h
    · rw [Nat.eq_of_beq_eq_true hb]; cases h; exact he.1
def PatSt (R : Rws) (D : List Deferred) (live : List (Nat × AV)) (n : Nat) (m : AM) (a : Act) (Hr : List RBlk) : Prop := ∃ r, RelSt R D ⟨pat live r 0 n, m⟩ a Hr
theorem pat_len (live : List (Nat × AV)) (r : Nat → Value) : ∀ i n, (pat live r i n).length = n
  | _, 0 => rfl
  | i, n + 1 => by unfold pat; rw [List.length_cons, pat_len]
theorem patSt_of {live live' : List (Nat × AV)} {n : Nat} {st : ASt} {a : Act} {Hr : List RBlk} (h : RelSt R D st a Hr) (hn : st.tl.length = n) (hl : Lives st.tl live') : PatSt R D live' n st.m a Hr := by
  obtain ⟨vs, rfl, ht, hB, hnd⟩ := h
  subst hn
  obtain ⟨r, hr⟩ := pat_of ht hl
  exact ⟨r, vs, rfl, hr, hB, hnd⟩

/-! ### What is known of the world beside. -/
def markD (D : Nat) : Deferred := { target := .collected D, args := #[] }
structure Bun (R : Rws) (Ds : List Nat) (n0 : Nat) (w0 : World) (H : Mem) (Hr : List RBlk) (w : World) : Prop where
  own : OwnK R H Hr w
  marks : ∀ D ∈ Ds, w.heap[D]? = some (.deferred (some [])) ∧ D ∉ bs (nums Hr) ∧ n0 ≤ D
  nodup : Ds.Nodup
  fresh : ∀ q ∈ nums Hr, q.ph = false → n0 ≤ q.b
  below : Below n0 w0 w
  size : n0 ≤ w.heap.size
theorem Bun.stp {Ds : List Nat} {n0 : Nat} {w0 : World} {H H' : Mem} {Hr Hr' : List RBlk} {w w' : World} {wr : Nat → Bool} (h : Bun R Ds n0 w0 H Hr w) (hO : OwnK R H' Hr' w') (hS : Stp wr Hr w Hr' w') : Bun R Ds n0 w0 H' Hr' w' := by
  obtain ⟨σ, e1, n1⟩ := hS.ext
  have hs := h.size
  have hmem : ∀ {b : Nat}, b ∉ bs (nums Hr) → b < w.heap.size → b ∉ bs (nums Hr') := fun {b} h2 hl hm => by
    rw [e1, bs_append] at hm
    rcases List.mem_append.1 hm with hm | hm
    · exact h2 hm
    · obtain ⟨q, hq, hqp, hqb⟩ := mem_bs.1 hm
      rcases n1 q hq hqp with h4 | ⟨l, p, x1, x0, x2, _⟩
      · omega
      · exact h2 (mem_bs.2 ⟨p, List.mem_of_getElem? x1, x0, x2.trans hqb⟩)
  refine ⟨hO, fun D hD => ?_, h.nodup, fun q hq hqp => ?_, ?_, Nat.le_trans h.size hS.size⟩
  · obtain ⟨h1, h2, h3⟩ := h.marks D hD
    have hl := (Array.getElem?_eq_some_iff.1 h1).1
    exact ⟨(hS.block D hl (fun l q hl hqp hq => absurd (mem_bs.2 ⟨q, List.mem_of_getElem? hl, hqp, hq⟩) h2)).trans h1, hmem h2 hl, h3⟩
  · rw [e1] at hq
    rcases List.mem_append.1 hq with hq | hq
    · exact h.fresh q hq hqp
    · rcases n1 q hq hqp with h4 | ⟨l, p, x1, x0, x2, _⟩
      · omega
      · rw [← x2]; exact h.fresh p (List.mem_of_getElem? x1) x0
  · refine h.below.trans ⟨hS.os, hS.tape, hS.output, hS.size, fun k hk => hS.block k (by omega) fun l q hl hqp hq => ?_⟩
    have := h.fresh q (List.mem_of_getElem? hl) hqp
    omega
/-! ### Pieces of code. -/
theorem ev_eq {α : Type} (l : List (Bool × Bool)) (r : α) {p : Prop} (h : p = allE l (r = r)) (hl : AllE l) : Is p := ⟨h ▸ allE_of hl rfl⟩
def isNorm : AExit → Bool
  | .normal => true
  | _ => false
def chK (live : List (Nat × AV)) (n : Nat) (H : Mem) (ds : List Bool) : AExit → ASt → Prop := fun e st =>
  (isNorm e, st.tl.length, live.map (fun p => st.tl[p.1]?), st.m.H, st.m.ds) = (true, n, live.map (fun p => some p.2), H, ds)
/-- What chK says when it is so. -/
abbrev chR (live : List (Nat × AV)) (n : Nat) (H : Mem) (ds : List Bool) : Bool × Nat × List (Option AV) × Mem × List Bool := (true, n, live.map (fun p => some p.2), H, ds)
def evCs (E : Env) (nf : Nat) : List Code → ASt → (AExit → ASt → Prop) → Prop
  | [], st, K => K .normal st
  | c :: cs, st, K => evT E nf (.code c) st fun e st => match e with
    | .normal => evCs E nf cs st K
    | _ => False
def takeSeq : Nat → Code → List Code
  | k + 1, .seq x y => x :: takeSeq k y
  | _, _ => []
def dropSeq : Nat → Code → Code
  | k + 1, .seq _ y => dropSeq k y
  | _, c => c
section
variable {E : Env} (hE : EnvOK E) {Ds : List Nat} {n0 : Nat} {w0 : World}
include hE
theorem evCs_sound (nf : Nat) : ∀ (k : Nat) (c : Code) (st : ASt) (K : AExit → ASt → Prop), evCs E nf (takeSeq k c) st K → ∃ st', K .normal st' ∧ st'.m.wr = st.m.wr ∧ ∀ {D : List Deferred} a Hr w, RelSt E.rows D st a Hr → OwnK E.rows st.m.H Hr w → ∀ Q : Exit → Act → World → Prop,
    (∀ a' Hr' w', RelSt E.rows D st' a' Hr' → OwnK E.rows st'.m.H Hr' w' → Stp st.m.wr Hr w Hr' w' → (dropSeq k c).wp E.P Q a' w') → c.wp E.P Q a w
  | 0, c, st, K, h => by
    cases c <;> exact ⟨st, h, rfl, fun a Hr w hR hO Q hq => hq a Hr w hR hO (.refl _ _ _)⟩
  | k + 1, c, st, K, h => by
    cases c with
    | seq x y =>
      unfold takeSeq evCs at h
      obtain ⟨e, st1, h1, hlo1, h2⟩ := ev_sound hE nf _ _ _ h
      cases e <;> simp only at h1
      obtain ⟨st', hk, hlo, hs⟩ := evCs_sound nf k y st1 K h1
      refine ⟨st', hk, hlo.trans hlo1, fun a Hr w hR hO Q hq => wp_seq (wp_mono (h2 a Hr w hR hO) ?_)⟩
      rintro e' a1 w1 ⟨rfl, Hr1, hR1, hO1, hS1⟩
      refine hs a1 Hr1 w1 hR1 hO1 Q fun a' Hr' w' hR' hO' hS' => ?_
      rw [hlo1] at hS'
      exact hq a' Hr' w' hR' hO' (hS1.trans hS')
    | _ => exact ⟨st, h, rfl, fun a Hr w hR hO Q hq => hq a Hr w hR hO (.refl _ _ _)⟩
/-- So many statements, one behind the other. -/
theorem ev_seqs (nf k : Nat) {c : Code} {live live' : List (Nat × AV)} {n : Nat} {m : AM} {H' : Mem} {ds' : List Bool} (h : ∀ r, Is (evCs E nf (takeSeq k c) ⟨pat live r 0 n, m⟩ (chK live' n H' ds')))
    {a : Act} {Hr : List RBlk} {w : World} {Q : Exit → Act → World → Prop} (hP : PatSt E.rows D live n m a Hr) (hB : Bun E.rows Ds n0 w0 m.H Hr w)
    (hk : ∀ a' Hr' w', PatSt E.rows D live' n ⟨H', ds', m.wr⟩ a' Hr' → Bun E.rows Ds n0 w0 H' Hr' w' → Stp m.wr Hr w Hr' w' → (dropSeq k c).wp E.P Q a' w') : c.wp E.P Q a w := by
  obtain ⟨r, hR⟩ := hP
  obtain ⟨st', h1, hlo, h2⟩ := evCs_sound hE nf k c _ _ (h r).is
  refine h2 a Hr w hR hB.own Q fun a' Hr' w' hR' hO' hS => ?_
  unfold chK at h1
  simp only [Prod.mk.injEq] at h1
  obtain ⟨_, hn, hl, rfl, rfl⟩ := h1
  have hP' := patSt_of (live := live) hR' hn (lives_of hl)
  have hm : st'.m = ⟨st'.m.H, st'.m.ds, m.wr⟩ := by rw [← hlo]
  rw [hm] at hP'
  exact hk a' Hr' w' hP' (hB.stp hO' hS) hS
end
/-! ### The way in and out. -/
def inLive : Nat → List AV → List (Nat × AV)
  | _, [] => []
  | i, v :: r => (i, v) :: inLive (i + 1) r
theorem look_in {l : List AV} : ∀ {i k : Nat} {v : AV}, look k (inLive i l) = some v → i ≤ k ∧ l[k - i]? = some v := by
  induction l with
  | nil => intro i k v h; cases h
  | cons c r ih =>
    intro i k v h
    unfold inLive look at h
    cases hb : Nat.beq k i <;> simp only [hb, cond_true, cond_false] at h
    · have := ih h
      refine ⟨by omega, ?_⟩
      rw [show k - i = (k - (i + 1)) + 1 by omega]
      simpa using this.2
    · rw [Nat.eq_of_beq_eq_true hb]; cases h; simp
theorem ev_enter {E : Env} {f : FuncId} {fn : Func} {c : Code} (hf : E.P.funcs[f]? = some fn) (hb : fn.body = some c) {args : List AV} {Args : List Value} (hn : args.length ≤ fn.ntmps) (ha : RelL E.rows [] args Args) {w : World} (hd : Rd E.rows [] w) {ds : List Bool} {wr : Nat → Bool} {Q : Ending → World → Prop}
    (h : ∀ a, PatSt E.rows ([].map markD) (inLive 0 args) fn.ntmps ⟨[], ds, wr⟩ a [] → Bun E.rows [] w.heap.size w [] [] w → c.wp E.P (bodyPostM Fence.wide 0 E.P fn Q) a w) : Calls E.P f Args.toArray w Q := by
  refine calls_marks hf hb (h _ ?_ ⟨⟨OwnM.nil _, hd⟩, by simp, by simp, by simp [nums], Below.refl _ _, Nat.le_refl _⟩)
  have hl := ha.len
  have hR : RelSt E.rows [] ⟨args ++ List.replicate (fn.ntmps - args.length) undefA, ⟨[], ds, wr⟩⟩ ⟨Args.toArray ++ Array.replicate (fn.ntmps - Args.toArray.size) undef, []⟩ [] := by
    refine ⟨Args ++ List.replicate (fn.ntmps - args.length) undef, ?_, ha.append (RelL.rep .raw _), .nil, Apart.nil⟩
    congr 1
    apply Array.toList_inj.1
    simp [hl]
  exact patSt_of (live := []) hR (by simp; omega) (fun i v hv => by
    obtain ⟨_, h2⟩ := look_in hv
    simp only [Nat.sub_zero] at h2
    rw [List.getElem?_append_left (List.getElem?_eq_some_iff.1 h2).1]; exact h2)
def putsD : List Nat → World → World
  | [], w => w
  | D :: Ds, w => putsD Ds (w.putObj D (.deferred none))
theorem leave_marks {P : Program} {fn : Func} {tmps : Array Value} {Q : Ending → World → Prop} : ∀ (Ds : List Nat) (w : World), (∀ D ∈ Ds, w.heap[D]? = some (.deferred (some []))) → Ds.Nodup →
    (∃ v, (results fn tmps).run P (putsD Ds w) = .ok v (putsD Ds w) ∧ Q (.returned v) (putsD Ds w)) → LeavesInM Fence.wide 0 P fn tmps Q (Ds.map markD) .returning w
  | [], w, _, _, h => h
  | D :: Ds, w, hD, hn, h => by
    have hn' := List.nodup_cons.1 hn
    refine ⟨by simp, .inl ⟨_, _, rfl, run_takeDeferred (hD D (by simp)), ?_⟩⟩
    refine leave_marks Ds (w.putObj D (.deferred none)) (fun E hE => ?_) hn'.2 h
    exact (World.putObj_heap_other (by intro e; subst e; exact hn'.1 hE)).trans (hD E (by simp [hE]))
theorem own_putsD {H : Mem} {Hr : List RBlk} : ∀ (Ds : List Nat) {w : World}, (∀ D ∈ Ds, D ∉ bs (nums Hr)) → OwnM H Hr w → OwnM H Hr (putsD Ds w)
  | [], _, _, h => h
  | D :: Ds, w, hD, h => own_putsD Ds (fun E hE => hD E (by simp [hE])) (fun l it p h1 h2 hq => by
    obtain ⟨x1, x2⟩ := h l it p h1 h2 hq
    have hne : p.b ≠ D := fun e => hD D (by simp) (by rw [← e]; exact bs_at (nums_get h2) hq)
    exact ⟨by simpa [World.putObj] using x1, fun hl => (World.putObj_heap_other hne).trans (x2 hl)⟩)
theorem below_putsD {n : Nat} {w0 : World} : ∀ (Ds : List Nat) {w : World}, (∀ D ∈ Ds, n ≤ D) → Below n w0 w → Below n w0 (putsD Ds w)
  | [], _, _, h => h
  | D :: Ds, w, hD, h => below_putsD Ds (fun E hE => hD E (by simp [hE])) (Below.put h _ (hD D (by simp)))
/-- Rows lie apart from marks: they are below, or kept. -/
theorem rd_putsD {nb : List Nat} : ∀ (Ds : List Nat) {w : World}, (∀ D ∈ Ds, w.heap[D]? = some (.deferred (some []))) → Ds.Nodup → RwOK R → Rd R nb w → (∀ j r, R j = some r → 0 < r.n → 0 < (r.V 0).length) → Rd R nb (putsD Ds w)
  | [], _, _, _, _, h, _ => h
  | D :: Ds, w, hD, hn, hR, h, hp => by
    have hn' := List.nodup_cons.1 hn
    refine rd_putsD Ds (fun E hE => (World.putObj_heap_other (by intro e; subst e; exact hn'.1 hE)).trans (hD E (by simp [hE]))) hn'.2 hR (fun j r hj b off ha h0 => ?_) hp
    obtain ⟨h1, h2, h3⟩ := h j r hj b off ha h0
    have hne : b ≠ D := by
      intro e; subst e
      have hl := hp j r hj h0
      have hc := h3 0 h0 0 ((r.V 0)[0]) (by simp [hl])
      have := hD b (by simp)
      simp [World.cell?, this] at hc
    have hbk : (w.putObj D (.deferred none)).heap[b]? = w.heap[b]? := World.putObj_heap_other hne
    exact ⟨h1, by simpa [World.putObj] using h2, fun i hi q u hu => (World.cell?_of_block (a := ⟨b, off + i * r.s + q, none⟩) hbk).trans (h3 i hi q u hu)⟩
def retK (E : Env) (fn : Func) (r : AV) : AExit → ASt → Prop
  | .ret, st | .normal, st => resA E.P E.rows st.m.H st.tl fn.results.toList = some [r]
  | _, _ => False
/-- The rest of a function. -/
theorem ev_rest {E : Env} (hE : EnvOK E) (nf : Nat) {c : Code} {live : List (Nat × AV)} {n : Nat} {m : AM} {r : AV} {V : Value} {fn : Func} (h : ∀ rs, Is (evT E nf (.code c) ⟨pat live rs 0 n, m⟩ (retK E fn r))) (hV : r.told? = some V)
    (hp : ∀ j r, E.rows j = some r → 0 < r.n → 0 < (r.V 0).length)
    {a : Act} {Hr : List RBlk} {w w0 : World} {Ds : List Nat} {n0 : Nat} (hP : PatSt E.rows (Ds.map markD) live n m a Hr) (hB : Bun E.rows Ds n0 w0 m.H Hr w) :
    c.wp E.P (bodyPostM Fence.wide 0 E.P fn (fun e w' => e = .returned V ∧ Below n0 w0 w')) a w := by
  obtain ⟨rs, hR⟩ := hP
  obtain ⟨e, st', hk, hlo, hs⟩ := ev_sound hE nf (.code c) _ _ (h rs).is
  refine wp_mono (hs a Hr w hR hB.own) ?_
  rintro e' a' w' ⟨rfl, Hr', hR', hO', hS⟩
  have hB' := hB.stp hO' hS
  have key : ∀ {e' : Exit}, (e' = .ret ∨ e' = .normal) → resA E.P E.rows st'.m.H st'.tl fn.results.toList = some [r] → bodyPostM Fence.wide 0 E.P fn (fun e w' => e = .returned V ∧ Below n0 w0 w') e' a' w' := by
    intro e' he hvs
    have hd : a'.defers = Ds.map markD := by obtain ⟨tv, rfl, _⟩ := hR'; rfl
    obtain ⟨V', hv, hres⟩ := results_sound hE.rows hR' hvs
    have hVV : V' = V := hv.told hV
    subst hVV
    have := leave_marks (P := E.P) (fn := fn) (tmps := a'.tmps) (Q := fun e w' => e = .returned V' ∧ Below n0 w0 w') Ds w' (fun D hD => (hB'.marks D hD).1) hB'.nodup
      ⟨V', hres _ ⟨own_putsD Ds (fun D hD => (hB'.marks D hD).2.1) hO'.1, rd_putsD Ds (fun D hD => (hB'.marks D hD).1) hB'.nodup hE.rows hO'.2 hp⟩, rfl, below_putsD Ds (fun D hD => (hB'.marks D hD).2.2) hB'.below⟩
    rw [← hd] at this
    rcases he with rfl | rfl <;> exact this
  cases e <;> simp only [retK] at hk
  · exact key (.inr rfl) hk
  · exact key (.inl rfl) hk
end

section
variable {D : List Deferred} {R : Rws}
theorem set_get {H : Mem} {l : Nat} {it : AIt} {k : Nat} {jt : AIt} (h : (H.set l it)[k]? = some jt) : (k = l ∧ jt = it) ∨ (k ≠ l ∧ H[k]? = some jt) := by
  by_cases e : l = k
  · subst e
    have hlt : l < H.length := by have := (List.getElem?_eq_some_iff.1 h).1; simpa using this
    rw [List.getElem?_set_self hlt] at h
    cases h; exact .inl ⟨rfl, rfl⟩
  · rw [List.getElem?_set_ne e] at h
    exact .inr ⟨Ne.symm e, h⟩
theorem own_same {H : Mem} {Hr : List RBlk} {w : World} {l : Nat} {it it' : AIt} (h : OwnM H Hr w) (hl : H[l]? = some it) (hv : it.live = true) : OwnM (H.set l it') Hr w := fun k jt p h1 h2 hq => by
  rcases set_get h1 with ⟨rfl, rfl⟩ | ⟨_, h3⟩
  · obtain ⟨a, b⟩ := h k it p hl h2 hq
    exact ⟨a, fun _ => b hv⟩
  · exact h k jt p h3 h2 hq
theorem apart_same {H : Mem} {Hr : List RBlk} {l : Nat} {it it' : AIt} (h : Apart H Hr) (hl : H[l]? = some it) (hv : it.live = true) (ho : it'.owner l = it.owner l) : Apart (H.set l it') Hr := fun k m jt kt p q hne h1 h2 v1 v2 q1 q2 z1 z2 hb => by
  rcases set_get h1 with ⟨rfl, rfl⟩ | ⟨_, h3⟩ <;> rcases set_get h2 with ⟨rfl, rfl⟩ | ⟨_, h4⟩
  · exact absurd rfl hne
  · rw [ho]; exact h k m it kt p q hne hl h4 hv v2 q1 q2 z1 z2 hb
  · rw [ho]; exact h k m jt it p q hne h3 hl v1 hv q1 q2 z1 z2 hb
  · exact h k m jt kt p q hne h3 h4 v1 v2 q1 q2 z1 z2 hb
theorem relB_same {ρ : Nums} {H : Mem} {Hr : List RBlk} {l : Nat} {it it' : AIt} (h : RelB R ρ H Hr) (hl : H[l]? = some it) (hi : ∀ p, RelI R ρ it p → RelI R ρ it' p) : RelB R ρ (H.set l it') Hr := ⟨by simp [h.1], fun k jt p h1 h2 => by
  rcases set_get h1 with ⟨rfl, rfl⟩ | ⟨_, h3⟩
  · exact hi p (h.2 k it p hl h2)
  · exact h.2 k jt p h3 h2⟩
/-- A row's elements, said in another way; fewer of them. -/
theorem relI_row {ρ : Nums} {n n' s : Nat} {F F' : Nat → List AV} {t : TypeId} {own : Option Nat} (hn : n' ≤ n) (hF : ∀ i, i < n' → F' i = F i) (p : RBlk) (h : RelI R ρ (.row n s F t own) p) : RelI R ρ (.row n' s F' t own) p := by
  cases h with
  | row h hc hnc hm hs => exact .row (fun i hi => by rw [hF i hi]; exact h i (by omega)) hc (by omega) hm hs
  | row0 h =>
    obtain rfl : n' = 0 := by omega
    exact .row0 h
theorem patSt_row {live : List (Nat × AV)} {k l n n' s : Nat} {H : Mem} {F F' : Nat → List AV} {t : TypeId} {own : Option Nat} {ds : List Bool} {wr : Nat → Bool} {a : Act} {Hr : List RBlk} (hl : H[l]? = some (.row n s F t own)) (hn : n' ≤ n) (hF : ∀ i, i < n' → F' i = F i) (h : PatSt R D live k ⟨H, ds, wr⟩ a Hr) : PatSt R D live k ⟨H.set l (.row n' s F' t own), ds, wr⟩ a Hr := by
  obtain ⟨r, vs, e, ht, hB, hA⟩ := h
  exact ⟨r, vs, e, ht, relB_same hB hl (relI_row hn hF), apart_same hA hl rfl (by cases own <;> rfl)⟩
theorem bun_row {Ds : List Nat} {n0 : Nat} {w0 : World} {l n n' s : Nat} {H : Mem} {F F' : Nat → List AV} {t : TypeId} {own : Option Nat} {Hr : List RBlk} {w : World} (hl : H[l]? = some (.row n s F t own)) (h : Bun R Ds n0 w0 H Hr w) : Bun R Ds n0 w0 (H.set l (.row n' s F' t own)) Hr w :=
  ⟨⟨own_same h.own.1 hl rfl, h.own.2⟩, h.marks, h.nodup, h.fresh, h.below, h.size⟩
/-- Cells that stand for the same. -/
theorem patSt_cells {live : List (Nat × AV)} {n l : Nat} {H : Mem} {ds : List Bool} {wr : Nat → Bool} {a : Act} {Hr : List RBlk} {cs cs' : List AV} {t : TypeId} {Vs : List Value} (hl : H[l]? = some (.cells cs t)) (h1 : AV.vals? cs = some Vs) (h2 : AV.vals? cs' = some Vs) (h : PatSt R D live n ⟨H, ds, wr⟩ a Hr) : PatSt R D live n ⟨H.set l (.cells cs' t), ds, wr⟩ a Hr := by
  obtain ⟨r, vs, e, ht, hB, hA⟩ := h
  refine ⟨r, vs, e, ht, relB_same hB hl (fun p hp => ?_), apart_same hA hl rfl rfl⟩
  cases hp with | cells hp hq =>
  have e := hp.vals h1
  subst e
  exact .cells (RelL.of_vals h2) hq
theorem bun_cells {Ds : List Nat} {n0 : Nat} {w0 : World} {l : Nat} {H : Mem} {cs cs' : List AV} {t : TypeId} {Hr : List RBlk} {w : World} (hl : H[l]? = some (.cells cs t)) (h : Bun R Ds n0 w0 H Hr w) : Bun R Ds n0 w0 (H.set l (.cells cs' t)) Hr w :=
  ⟨⟨own_same h.own.1 hl rfl, h.own.2⟩, h.marks, h.nodup, h.fresh, h.below, h.size⟩
end

section
variable {D : List Deferred} {R : Rws}

def setps (tl : List AV) : List Nat → List AV → List AV
  | [], _ => tl
  | _ :: _, [] => tl
  | p :: ps, x :: xs => setps (tl.set p x) ps xs
def setvs (tl : List Value) : List Nat → List Value → List Value
  | [], _ => tl
  | _ :: _, [] => tl
  | p :: ps, x :: xs => setvs (tl.set p x) ps xs
theorem setps_rel {ρ : Nums} : ∀ {ps : List Nat} {xs : List AV} {Xs : List Value} {tl : List AV} {vs : List Value}, RelL R ρ tl vs → RelL R ρ xs Xs → RelL R ρ (setps tl ps xs) (setvs vs ps Xs)
  | [], _, _, _, _, h, _ => by unfold setps setvs; exact h
  | p :: ps, _, _, _, _, h, .nil => h
  | p :: ps, _, _, _, _, h, .cons hx hxs => by
    unfold setps setvs
    exact setps_rel (h.set hx) hxs
theorem setvs_foldl : ∀ (ps : List Tmp) (Xs vs : List Value), (ps.zip Xs).foldl (fun (t : Array Value) (x : Tmp × Value) => t.setIfInBounds x.1 x.2) vs.toArray = (setvs vs ps Xs).toArray
  | [], Xs, vs => by simp [setvs]
  | p :: ps, [], vs => by simp [setvs]
  | p :: ps, x :: Xs, vs => by
    simp only [List.zip_cons_cons, List.foldl_cons, List.setIfInBounds_toArray]
    exact setvs_foldl ps Xs _
theorem setvs_act (ps : List Tmp) (Xs vs : List Value) : ((ps.toArray.zip Xs.toArray).foldl (fun (t : Array Value) (x : Tmp × Value) => t.setIfInBounds x.1 x.2) vs.toArray) = (setvs vs ps Xs).toArray := by
  rw [List.zip_toArray, List.foldl_toArray]
  exact setvs_foldl ps Xs vs
mutual
def bddA (n : Nat) : AV → Bool
  | .ptr l _ => Nat.blt l n
  | .slice l _ _ _ => Nat.blt l n
  | .gsl _ l _ _ => Nat.blt l n
  | .gptr l _ _ => Nat.blt l n
  | .mp l => Nat.blt l n
  | .func _ cs => bddL n cs
  | .meth _ fs cs => bddL n fs && bddL n cs
  | .agg cs => bddL n cs
  | .tuple cs => bddL n cs
  | _ => true
def bddL (n : Nat) : List AV → Bool
  | [] => true
  | c :: r => bddA n c && bddL n r
end
def bddH (n : Nat) : Mem → Bool
  | [] => true
  | .cells c _ :: r => bddL n c && bddH n r
  | .row _ _ _ _ (some o) :: r => Nat.blt o n && bddH n r
  | _ :: r => bddH n r
theorem app_left {ρ σ : Nums} {l : Nat} {b : Num} (h : (ρ ++ σ)[l]? = some b) (hl : Nat.blt l ρ.length = true) : ρ[l]? = some b := by
  rw [Nat.blt_eq] at hl
  rwa [List.getElem?_append_left hl] at h
mutual
theorem Rel.shrink {ρ σ : Nums} : ∀ {v : AV} {V : Value}, bddA ρ.length v = true → Rel R (ρ ++ σ) v V → Rel R ρ v V
  | _, _, _, .bool => .bool
  | _, _, _, .int => .int
  | _, _, _, .bv h => .bv h
  | _, _, hb, .ptr h => .ptr (app_left h (by simpa [bddA] using hb))
  | _, _, hb, .slice h => .slice (app_left h (by simpa [bddA] using hb))
  | _, _, hb, .func h => .func (RelL.shrink (by simpa [bddA] using hb) h)
  | _, _, hb, .agg h => .agg (RelL.shrink (by simpa [bddA] using hb) h)
  | _, _, hb, .tuple h => .tuple (RelL.shrink (by simpa [bddA] using hb) h)
  | _, _, _, .raw => .raw
  | _, _, _, .rsl h hc => .rsl h hc
  | _, _, _, .rptr h ha hi => .rptr h ha hi
  | _, _, _, .xsl h hn hc ha => .xsl h hn hc ha
  | _, _, hb, .gsl h hn ha hk hm => .gsl (app_left h (by simpa [bddA] using hb)) hn ha hk hm
  | _, _, hb, .gptr h => .gptr (app_left h (by simpa [bddA] using hb))
  | _, _, hb, .mp h => .mp (app_left h (by simpa [bddA] using hb))
  | _, _, hb, .meth h k => .meth (RelL.shrink (by simp [bddA] at hb; exact hb.1) h) (RelL.shrink (by simp [bddA] at hb; exact hb.2) k)
  | _, _, _, .junk => .junk
  | _, _, _, .str => .str
theorem RelL.shrink {ρ σ : Nums} : ∀ {v : List AV} {V : List Value}, bddL ρ.length v = true → RelL R (ρ ++ σ) v V → RelL R ρ v V
  | _, _, _, .nil => .nil
  | _, _, hb, .cons h hs => by
    simp only [bddL, Bool.and_eq_true] at hb
    exact .cons (Rel.shrink hb.1 h) (RelL.shrink hb.2 hs)
end
theorem bddH_get {n : Nat} : ∀ {H : Mem} {l : Nat} {cs : List AV} {t : TypeId}, bddH n H = true → H[l]? = some (.cells cs t) → bddL n cs = true
  | [], l, cs, t, _, h => by simp at h
  | it :: r, 0, cs, t, hb, h => by
    simp at h; subst h
    simp only [bddH, Bool.and_eq_true] at hb
    exact hb.1
  | it :: r, l + 1, cs, t, hb, h => by
    refine bddH_get (H := r) (l := l) ?_ (by simpa using h)
    cases it with
    | cells c t => simp only [bddH, Bool.and_eq_true] at hb; exact hb.2
    | gone => exact hb
    | map _ => exact hb
    | row _ _ _ _ o => cases o with
      | none => exact hb
      | some o => simp only [bddH, Bool.and_eq_true] at hb; exact hb.2
theorem RelB.shrink {ρ σ : Nums} {H : Mem} {Hr : List RBlk} (hb : bddH ρ.length H = true) (h : RelB R (ρ ++ σ) H Hr) : RelB R ρ H Hr := ⟨h.1, fun l it p h1 h2 => by
  cases h.2 l it p h1 h2 with
  | cells hc hq => exact .cells (hc.shrink (bddH_get hb h1)) hq
  | row0 h => exact .row0 h
  | row a b c d e => exact .row a b c d e
  | map a b => exact .map a b
  | gone => exact .gone⟩
theorem RelB.take {ρ : Nums} (n : Nat) {H : Mem} {Hr : List RBlk} (h : RelB R ρ H Hr) : RelB R ρ (H.take n) (Hr.take n) := ⟨by simp [h.1], fun l it p h1 h2 => by
  rw [List.getElem?_take] at h1 h2
  split at h1
  · rename_i hl
    rw [if_pos hl] at h2
    exact h.2 l it p h1 h2
  · cases h1⟩
theorem RelL.of_plains' {ρ : Nums} {v : List AV} {V : List Value} (h : AV.plains? v = some V) : RelL R ρ v V := RelL.of_plains h
def memN (l : Nat) : List Nat → Bool
  | [] => false
  | x :: r => Nat.beq l x || memN l r
def endOf (id : Nat) : AExit → Option Bool
  | .normal => some false
  | .exit j => bif Nat.beq j id then some true else none
  | _ => none
def rndK (br : Bool) (id n0 : Nat) (H' : Mem) : AExit → ASt → Prop := fun e st => (endOf id e, st.m.H.take n0, bddH n0 (st.m.H.take n0), st.m.ds) = (some br, H', true, ([] : List Bool))
abbrev rndR (br : Bool) (H' : Mem) : Option Bool × Mem × Bool × List Bool := (some br, H', true, [])
def noMap : Mem → Bool
  | [] => true
  | .map _ :: _ => false
  | _ :: r => noMap r
theorem noMap_get {m : MapI} : ∀ {H : Mem} {l : Nat}, noMap H = true → H[l]? = some (.map m) → False
  | [], l, _, h => by simp at h
  | it :: r, 0, hb, h => by
    simp at h; subst h; cases hb
  | it :: r, l + 1, hb, h => by
    refine noMap_get (H := r) (l := l) ?_ (by simpa using h)
    cases it <;> first | exact hb | cases hb
/-- A round: the loop's variables are laid; then the body. -/
def evR (E : Env) (nf n0 : Nat) (assign body : Code) (st : ASt) (K : AExit → ASt → Prop) : Prop :=
  evT E nf (.code assign) st fun e st1 => match e with
    | .normal => bif noMap (st1.m.H.drop n0) then evT E nf (.code body) ⟨st1.tl, ⟨st1.m.H, st1.m.ds, fun l => st.m.wr l && (Nat.blt l n0 || Nat.ble st1.m.H.length l)⟩⟩ K else False
    | _ => False
theorem Stp.keep {wr : Nat → Bool} {A B : List RBlk} {u v : World} (h : Stp wr A u B v) {S : Nat → Prop} (hs : ∀ k, S k → k < u.heap.size → ∀ (l : Nat) (q : Num), (nums A)[l]? = some q → q.ph = false → q.b = k → wr l = false) : Keep S u v :=
  ⟨h.os, h.tape, h.output, h.size, fun k hk hl => h.block k hl (hs k hk hl)⟩
def Sfz (fz : List Nat) (Hr : List RBlk) (w : World) : Nat → Prop := fun k => k < w.heap.size ∧ ∀ (l : Nat) (q : Num), (nums Hr)[l]? = some q → q.ph = false → q.b = k → memN l fz = true
def MemR (R : Rws) (wr : Nat → Bool) (Hr : List RBlk) (w : World) (H : Mem) (V : World) : Prop := ∃ Hk, nums Hk = nums Hr ∧ RelB R (nums Hr) H Hk ∧ Apart H Hk ∧ OwnM H Hk V ∧ Stp wr Hr w Hk V
theorem Stp.any {wr : Nat → Bool} {Hr B : List RBlk} {w V V' : World} {row : Option Nat} (h : Stp wr Hr w B V) (hg : V.grownBy V' row) (hr : ∀ r, row = some r → w.heap.size ≤ r) : Stp wr Hr w B V' :=
  ⟨hg.os.trans h.os, hg.tape.trans h.tape, hg.output.trans h.output, Nat.le_trans h.size hg.size, h.ext, fun k hk hl => (hg.block k (Nat.lt_of_lt_of_le hk h.size) (fun e => by have := hr k e.symm; omega)).trans (h.block k hk hl)⟩
theorem nums_lt {H : Mem} {Hr : List RBlk} {w : World} (h : OwnM H Hr w) (hl : Hr.length = H.length) {l : Nat} {q : Num} (hq : (nums Hr)[l]? = some q) (hqp : q.ph = false) : q.b < w.heap.size := by
  obtain ⟨p, hp, rfl⟩ := nums_at hq
  exact own_lt h hl hp hqp
theorem mem_any {wr : Nat → Bool} {H0 : Mem} {Hr : List RBlk} {w : World} (hO : OwnM H0 Hr w) (hl0 : Hr.length = H0.length) {Hk : Nat → Mem} {p : Nat → Prop} : AnyFrom w.heap.size (fun k V => p k ∧ MemR R wr Hr w (Hk k) V) := by
  rintro k V V' row ⟨hp, Hr1, h1, h2, h3, h4, h5⟩ hg hr
  refine ⟨hp, Hr1, h1, h2, h3, fun l it q g1 g2 hq => ?_, h5.any hg hr⟩
  obtain ⟨x1, x2⟩ := h4 l it q g1 g2 hq
  have hn : (nums Hr)[l]? = some q.num := by rw [← h1]; exact nums_get g2
  have hlt : q.b < w.heap.size := nums_lt hO hl0 hn hq
  refine ⟨Nat.lt_of_lt_of_le x1 hg.size, fun hv => ?_⟩
  rw [hg.block q.b x1 fun e => by have := hr _ e.symm; omega]
  exact x2 hv
def Ends (br : Nat → Bool) (len k : Nat) : Prop := (k = len ∧ ∀ j, j < k → br j = false) ∨ (0 < k ∧ k ≤ len ∧ br (k - 1) = true ∧ ∀ j, j < k - 1 → br j = false)
def isRg : Code → Bool
  | .block _ (.rangeFunc _ _ _ _) => true
  | _ => false
def rgI : Code → Nat
  | .block id (.rangeFunc _ _ _ _) => id
  | _ => 0
def rgG : Code → Operand
  | .block _ (.rangeFunc g _ _ _) => g
  | _ => .tmp 0
def rgP : Code → Array Tmp
  | .block _ (.rangeFunc _ ps _ _) => ps
  | _ => #[]
def rgA : Code → Code
  | .block _ (.rangeFunc _ _ a _) => a
  | _ => .skip
def rgB : Code → Code
  | .block _ (.rangeFunc _ _ _ b) => b
  | _ => .skip
def isSq : Code → Bool
  | .seq _ _ => true
  | _ => false
def sL : Code → Code
  | .seq x _ => x
  | _ => .skip
def sR : Code → Code
  | .seq _ y => y
  | _ => .skip
theorem wp_parts {P : Program} {c : Code} {Q : Exit → Act → World → Prop} {a : Act} {w : World} (hc : isSq c = true) (h : (sL c).wp P (Exit.then ((sR c).wp P Q) Q) a w) : c.wp P Q a w := by
  unfold isSq at hc
  split at hc
  · exact wp_seq h
  · cases hc
section
variable {E : Env} (hE : EnvOK E) {Ds : List Nat} {n0 : Nat} {w0 : World}
include hE
theorem ev_range (nf : Nat) {α : Type} {xs : List α} {encs : Nat → α → Array Value} {id : Nat} {g : Operand} {ps : Array Tmp} {assign body : Code} {gf : Nat} {caps : List AV} {live : List (Nat × AV)} {n : Nat} {m : AM} {a : Act} {Hr : List RBlk} {w : World} {Q : Exit → Act → World → Prop}
    (hg : ∀ r, evO (pat live r 0 n) g = some (.func (.func gf) caps)) (eg : Enters E.P gf) (hin : inB assign = true) (hin2 : inB body = true) (fz : List Nat)
    (hseq : ∀ lb, RelL E.rows (nums Hr) caps lb → Seq E.P gf lb.toArray encs xs (Sfz fz Hr w) w)
    (xA : Nat → α → List AV) (hx : ∀ k x, xs[k]? = some x → AV.plains? (xA k x) = some (encs k x).toList) (hps : ∀ k x, (encs k x).size = ps.size)
    (Hk : Nat → Mem) (h0 : Hk 0 = m.H) (hlen : ∀ k, (Hk k).length = m.H.length) (ds : Nat → List Bool) (br : Nat → Bool)
    (hround : ∀ k x r, xs[k]? = some x → (∀ j, j < k → br j = false) → Is (evR E nf m.H.length assign body ⟨setps (pat live r 0 n) ps.toList (xA k x), ⟨Hk k, ds k, fun l => m.wr l && !memN l fz⟩⟩ (rndK (br k) id m.H.length (Hk (k + 1)))))
    (hP : PatSt E.rows (Ds.map markD) live n m a Hr) (hB : Bun E.rows Ds n0 w0 m.H Hr w)
    (hk : ∀ k a' Hr' w', Ends br xs.length k → PatSt E.rows ((w.heap.size :: Ds).map markD) live n ⟨Hk k, [], m.wr⟩ a' Hr' → Bun E.rows (w.heap.size :: Ds) n0 w0 (Hk k) Hr' w' → Stp m.wr Hr w Hr' w' → Q .normal a' w') :
    (Code.block id (.rangeFunc g ps assign body)).wp E.P Q a w := by
  obtain ⟨r, vs, rfl, ht, hBl, hnd⟩ := hP
  have hbl := hBl.len
  have hfl := evO_sound (D := Ds.map markD) ht _ _ (hg r)
  generalize hge : (⟨vs.toArray, Ds.map markD⟩ : Act).eval g = gv at hfl
  cases hfl with | func hcaps =>
  rename_i lb
  refine wp_block ?_
  refine wp_each_block (w0 := w) (xs := xs) (encs := encs) (S := Sfz fz Hr w) hge (fun args w => eg args w) (hseq lb hcaps) (fun k hk => hk.1) (Keep.refl _ _) hps
    (fun k V => (∀ j, j < k → br j = false) ∧ MemR E.rows m.wr Hr w (Hk k) V) (fun k V => (0 < k ∧ br (k - 1) = true ∧ ∀ j, j < k - 1 → br j = false) ∧ MemR E.rows m.wr Hr w (Hk k) V) (mem_any hB.own.1 hBl.len) (mem_any hB.own.1 hBl.len)
    ⟨fun j hj => absurd hj (Nat.not_lt_zero _), Hr, rfl, by rw [h0]; exact hBl, by rw [h0]; exact hnd, by rw [h0]; exact hB.own.1, .refl _ _ _⟩ ?round ?hend
  case round =>
    rintro l k x V hxk ⟨hbr, Hk_r, hn1, hrel, hap, hown, hstp⟩ hl
    have hstpO : OwnK E.rows (Hk k) Hk_r V := ⟨hown, hstp.rd hB.own.2⟩
    have hrd := hround k x r hxk hbr
    have hR0 : RelSt E.rows [] ⟨setps (pat live r 0 n) ps.toList (xA k x), ⟨Hk k, ds k, fun l => m.wr l && !memN l fz⟩⟩ { tmps := (ps.zip (encs k x)).foldl (fun (t : Array Value) (x : Tmp × Value) => t.setIfInBounds x.1 x.2) vs.toArray, defers := [] } Hk_r := by
      refine ⟨setvs vs ps.toList (encs k x).toList, ?_, ?_, ?_, hap⟩
      · have := setvs_act ps.toList (encs k x).toList vs
        rw [Array.toArray_toList, Array.toArray_toList] at this
        rw [this]
      · rw [hn1]; exact setps_rel ht (RelL.of_plains (hx k x hxk))
      · rw [hn1]; exact hrel
    have hrd' := hrd.is
    unfold evR at hrd'
    obtain ⟨e, st1, hk1, hwr1, hs1⟩ := ev_in hE l nf assign _ _ hin hrd'
    cases e <;> simp only at hk1
    cases hnm : noMap (st1.m.H.drop m.H.length) <;> simp only [hnm, cond_true, cond_false] at hk1
    obtain ⟨e2, st2, hk2, hwr2, hs2⟩ := ev_in hE l nf body _ _ hin2 hk1
    refine wpIn_mono (hs1 _ Hk_r V hR0 hstpO) ?_
    rintro e' a1 V1 ⟨rfl, Hr1, hR1, hO1, hS1⟩
    have hS1w : Stp m.wr Hr w Hr1 V1 := hstp.trans (hS1.mono (fun l hl => by rw [Bool.and_eq_true] at hl; exact hl.1))
    have hSk : ∀ b, (Sfz fz Hr w b ∨ w.heap.size ≤ b) → b < V.heap.size → ∀ (l : Nat) (q : Num), (nums Hk_r)[l]? = some q → q.ph = false → q.b = b → (m.wr l && !memN l fz) = false := by
      rintro b (⟨_, hb⟩ | hb) _ l q hl hqp hqb
      · rw [hn1] at hl; rw [hb l q hl hqp hqb]; simp
      · rw [hn1] at hl; have := nums_lt hB.own.1 hBl.len hl hqp; omega
    obtain ⟨σ, hσ, hσ2⟩ := hS1.ext
    have hlen1 := hR1
    obtain ⟨vs1, _, _, hBl1, hnd1⟩ := hlen1
    have hH1 : (nums Hr1).length = st1.m.H.length := by rw [← hBl1.len]; simp [nums]
    have hHr0 : (nums Hr).length = m.H.length := by rw [← hbl]; simp [nums]
    refine ⟨hS1.keep hSk, fun V2 => OwnM st1.m.H Hr1 V2 ∧ Stp m.wr Hr w Hr1 V2, ?_, ⟨hO1.1, hS1w⟩, ?_⟩
    · intro u W W' row ⟨ho, hst⟩ hg hr
      exact ⟨fun l it q g1 g2 hq => by
        obtain ⟨x1, x2⟩ := ho l it q g1 g2 hq
        refine ⟨Nat.lt_of_lt_of_le x1 hg.size, fun hv => ?_⟩
        rw [hg.block q.b x1 fun e => by
          obtain ⟨hge', o, ho1, ho2⟩ := hr _ e.symm
          rw [x2 hv] at ho1
          cases ho1
          have hrel := hBl1.2 l it q g1 g2
          have g4 := nums_get g2
          have hqn : q.num.b = q.b := rfl
          have hq' := hq
          generalize q.num = qn at g4 hqn hq'
          cases hrel with
          | cells _ _ => simp [Obj.isCells] at ho2
          | row _ _ _ _ _ => simp [Obj.isCells] at ho2
          | row0 h0 => rw [h0] at hq; cases hq
          | map _ _ =>
            rcases Nat.lt_or_ge l m.H.length with hlt | hge2
            · rw [hσ, hn1, List.getElem?_append_left (by rw [hHr0]; exact hlt)] at g4
              have := nums_lt hB.own.1 hBl.len g4 hq'
              simp only at hqn hge'
              omega
            · exact noMap_get hnm (l := l - m.H.length) (by rw [List.getElem?_drop, Nat.add_sub_cancel' hge2]; exact g1)
          | gone => cases hv]
        exact x2 hv, hst.any hg (fun r e => (hr r e).1)⟩
    · rintro V2 ⟨ho, hst⟩
      have hbod : ∀ b, (Sfz fz Hr w b ∨ w.heap.size ≤ b) → b < V2.heap.size → ∀ (l : Nat) (q : Num), (nums Hr1)[l]? = some q → q.ph = false → q.b = b → ((m.wr l && !memN l fz) && (Nat.blt l m.H.length || Nat.ble st1.m.H.length l)) = false := by
        intro b hb _ l q hl hqp hqb
        rw [hσ, hn1] at hl
        rcases Nat.lt_or_ge l (nums Hr).length with hlt | hge'
        · rw [List.getElem?_append_left hlt] at hl
          rw [hSk b hb (by have := nums_lt hB.own.1 hBl.len hl hqp; have := hstp.size; omega) l q (by rw [hn1]; exact hl) hqp hqb]; rfl
        · have hll : l < st1.m.H.length := by
            rw [← hH1, hσ, hn1]; exact (List.getElem?_eq_some_iff.1 hl).1
          have e1 : Nat.blt l m.H.length = false := by rw [Bool.eq_false_iff]; intro h; rw [Nat.blt_eq] at h; omega
          have e2 : Nat.ble st1.m.H.length l = false := by rw [Bool.eq_false_iff]; intro h; have := Nat.le_of_ble_eq_true h; omega
          rw [e1, e2]; simp
      refine wpIn_mono (hs2 a1 Hr1 V2 hR1 ⟨ho, hst.rd hB.own.2⟩) ?_
      rintro e' a2 V3 ⟨rfl, Hr2, hR2, hO2, hS2⟩
      have hS2w : Stp m.wr Hr w Hr2 V3 := hst.trans (hS2.mono (fun l hl => by have hl : ((m.wr l && !memN l fz) && (Nat.blt l m.H.length || Nat.ble st1.m.H.length l)) = true := hl; rw [Bool.and_eq_true, Bool.and_eq_true] at hl; exact hl.1.1))
      have hmem : ∀ {H' : Mem}, st2.m.H.take m.H.length = H' → bddH m.H.length (st2.m.H.take m.H.length) = true → MemR E.rows m.wr Hr w H' V3 := by
        intro H' hH' hbd
        obtain ⟨σ2, hs2', hs3⟩ := hS2w.ext
        obtain ⟨vs2, _, _, hBl2, hnd2⟩ := hR2
        have hnt : nums (Hr2.take m.H.length) = nums Hr := by
          have : nums (Hr2.take m.H.length) = (nums Hr2).take m.H.length := by simp [nums, List.map_take]
          rw [this, hs2', ← hHr0, List.take_left]
        refine ⟨Hr2.take m.H.length, hnt, ?_, ?_, ?_, ?_⟩
        · subst hH'
          rw [hs2'] at hBl2
          refine RelB.shrink ?_ (hBl2.take m.H.length)
          rw [hHr0]; exact hbd
        · subst hH'
          intro k l jt kt x y hne h1 h2 v1 v2 q1 q2 z1 z2 hb
          rw [List.getElem?_take] at h1 h2 q1 q2
          split at h1
          · split at h2
            · rename_i c1 c2
              rw [if_pos c1] at q1; rw [if_pos c2] at q2
              exact hnd2 k l jt kt x y hne h1 h2 v1 v2 q1 q2 z1 z2 hb
            · cases h2
          · cases h1
        · subst hH'
          intro l jt x h1 q1 hxp
          rw [List.getElem?_take] at h1 q1
          split at h1
          · rename_i c1
            rw [if_pos c1] at q1
            exact hO2.1 l jt x h1 q1 hxp
          · cases h1
        · exact ⟨hS2w.os, hS2w.tape, hS2w.output, hS2w.size, ⟨[], by rw [hnt]; simp, by simp⟩, hS2w.block⟩
      unfold rndK at hk2
      simp only [Prod.mk.injEq] at hk2
      obtain ⟨q1, q2, q3, q4⟩ := hk2
      cases e2 <;> simp only [endOf] at q1
      case normal =>
        have hb0 : br k = false := by simpa using q1.symm
        refine ⟨hS2.keep hbod, fun j hj => ?_, hmem q2 q3⟩
        by_cases hjk : j = k
        · rw [hjk]; exact hb0
        · exact hbr j (by omega)
      case exit j =>
        cases hj : Nat.beq j id <;> simp only [hj, cond_true, cond_false] at q1
        · cases q1
        · have hb0 : br k = true := by simpa using q1.symm
          refine ⟨hS2.keep (fun b hb hl => hbod b (.inr hb) hl), by rw [Nat.eq_of_beq_eq_true hj], ⟨Nat.succ_pos _, by simpa using hb0, fun j hj => hbr j (by simpa using hj)⟩, hmem q2 q3⟩
      all_goals cases q1
  case hend =>
    intro k W hend hD
    have : Ends br xs.length k ∧ MemR E.rows m.wr Hr w (Hk k) W := by
      rcases hend with ⟨h1, h2, h3⟩ | ⟨h1, ⟨h2, h3, h4⟩, h5⟩
      · exact ⟨.inl ⟨h1, h2⟩, h3⟩
      · exact ⟨.inr ⟨h2, h1, h3, h4⟩, h5⟩
    obtain ⟨hends, Hk_r, hn1, hrel, hap, hown, hstp⟩ := this
    have hOK : OwnK E.rows (Hk k) Hk_r W := ⟨hown, hstp.rd hB.own.2⟩
    have hB' := hB.stp hOK hstp
    refine hk k _ Hk_r W hends ⟨r, vs, rfl, by rw [hn1]; exact ht, by rw [hn1]; exact hrel, hap⟩ ⟨hOK, fun D hD' => ?_, ?_, hB'.fresh, hB'.below, hB'.size⟩ hstp
    · rcases List.mem_cons.1 hD' with rfl | hD'
      · refine ⟨hD, fun hm => ?_, hB.size⟩
        rw [hn1] at hm
        obtain ⟨q, hq, hqp, hqb⟩ := mem_bs.1 hm
        obtain ⟨l, hl, hl2⟩ := List.mem_iff_getElem.1 hq
        have := nums_lt hB.own.1 hBl.len (l := l) (q := q) (by rw [List.getElem?_eq_getElem hl, hl2]) hqp
        omega
      · exact hB'.marks D hD'
    · refine List.nodup_cons.2 ⟨fun hm => ?_, hB.nodup⟩
      have := (Array.getElem?_eq_some_iff.1 (hB.marks _ hm).1).1
      omega
/-- The same, where the code is told by its parts. -/
theorem ev_rangeAt (nf : Nat) {α : Type} {xs : List α} {encs : Nat → α → Array Value} {c : Code} {gf : Nat} {caps : List AV} {live : List (Nat × AV)} {n : Nat} {m : AM} {a : Act} {Hr : List RBlk} {w : World} {Q : Exit → Act → World → Prop}
    (hc : isRg c = true) (hg : ∀ r, evO (pat live r 0 n) (rgG c) = some (.func (.func gf) caps)) (eg : Enters E.P gf) (hin : (inB (rgA c) && inB (rgB c)) = true) (fz : List Nat)
    (hseq : ∀ lb, RelL E.rows (nums Hr) caps lb → Seq E.P gf lb.toArray encs xs (Sfz fz Hr w) w)
    (xA : Nat → α → List AV) (hx : ∀ k x, xs[k]? = some x → AV.plains? (xA k x) = some (encs k x).toList) (hps : ∀ k x, (encs k x).size = (rgP c).size)
    (Hk : Nat → Mem) (h0 : Hk 0 = m.H) (hlen : ∀ k, (Hk k).length = m.H.length) (ds : Nat → List Bool) (br : Nat → Bool)
    (hround : ∀ k x r, xs[k]? = some x → (∀ j, j < k → br j = false) → Is (evR E nf m.H.length (rgA c) (rgB c) ⟨setps (pat live r 0 n) (rgP c).toList (xA k x), ⟨Hk k, ds k, fun l => m.wr l && !memN l fz⟩⟩ (rndK (br k) (rgI c) m.H.length (Hk (k + 1)))))
    (hP : PatSt E.rows (Ds.map markD) live n m a Hr) (hB : Bun E.rows Ds n0 w0 m.H Hr w)
    (hk : ∀ k a' Hr' w', Ends br xs.length k → PatSt E.rows ((w.heap.size :: Ds).map markD) live n ⟨Hk k, [], m.wr⟩ a' Hr' → Bun E.rows (w.heap.size :: Ds) n0 w0 (Hk k) Hr' w' → Stp m.wr Hr w Hr' w' → Q .normal a' w') : c.wp E.P Q a w := by
  unfold isRg at hc
  split at hc
  · rw [Bool.and_eq_true] at hin
    exact ev_range hE nf hg eg hin.1 hin.2 fz hseq xA hx hps Hk h0 hlen ds br hround hP hB hk
  · cases hc
end
/-- A known block. -/
theorem blk_of {H : Mem} {Hr : List RBlk} {w : World} (hB : RelB R (nums Hr) H Hr) (hO : OwnM H Hr w) {l : Nat} {cs : List AV} {t : TypeId} {Vs : List Value} (hl : H[l]? = some (.cells cs t)) (hv : AV.vals? cs = some Vs) : ∃ q, (nums Hr)[l]? = some q ∧ Blk w q.b Vs.toArray t := by
  obtain ⟨b, s, Cs, e1, e2⟩ := hB.get hl
  have := e2.vals hv
  subst this
  exact ⟨_, nums_get e1, (hO l _ _ hl e1 (hB.cph hl e1)).2 rfl⟩
theorem rel_ptr {ρ : Nums} {l o : Nat} {V : Value} (h : Rel R ρ (.ptr l o) V) : ∃ q, ρ[l]? = some q ∧ V = .pointer (some ⟨q.b, o, none⟩) := by cases h; exact ⟨_, by assumption, rfl⟩
end

section
section
variable {D : List Deferred} {R R2 : Rws}
mutual
theorem Rel.rows {ρ : Nums} (hx : ∀ j r, R j = some r → R2 j = some r) : ∀ {v : AV} {V : Value}, Rel R ρ v V → Rel R2 ρ v V
  | _, _, .bool => .bool
  | _, _, .int => .int
  | _, _, .bv h => .bv h
  | _, _, .ptr h => .ptr h
  | _, _, .slice h => .slice h
  | _, _, .func h => .func (RelL.rows hx h)
  | _, _, .agg h => .agg (RelL.rows hx h)
  | _, _, .tuple h => .tuple (RelL.rows hx h)
  | _, _, .raw => .raw
  | _, _, .rsl h hc => .rsl (hx _ _ h) hc
  | _, _, .rptr h ha hi => .rptr (hx _ _ h) ha hi
  | _, _, .xsl h hn hc ha => .xsl (hx _ _ h) hn hc ha
  | _, _, .gsl h hn ha hk hm => .gsl h hn ha hk hm
  | _, _, .gptr h => .gptr h
  | _, _, .mp h => .mp h
  | _, _, .meth h k => .meth (RelL.rows hx h) (RelL.rows hx k)
  | _, _, .junk => .junk
  | _, _, .str => .str
theorem RelL.rows {ρ : Nums} (hx : ∀ j r, R j = some r → R2 j = some r) : ∀ {v : List AV} {V : List Value}, RelL R ρ v V → RelL R2 ρ v V
  | _, _, .nil => .nil
  | _, _, .cons h hs => .cons (Rel.rows hx h) (RelL.rows hx hs)
end
theorem RelB.rows {ρ : Nums} (hx : ∀ j r, R j = some r → R2 j = some r) {H : Mem} {Hr : List RBlk} (h : RelB R ρ H Hr) : RelB R2 ρ H Hr := ⟨h.1, fun l it p h1 h2 => by
  cases h.2 l it p h1 h2 with
  | cells hc hq => exact .cells (hc.rows hx) hq
  | row0 h => exact .row0 h
  | row a b c d e => exact .row a b c d e
  | map a b => exact .map a b
  | gone => exact .gone⟩
theorem PatSt.rows {live : List (Nat × AV)} {n : Nat} {m : AM} {a : Act} {Hr : List RBlk} (hx : ∀ j r, R j = some r → R2 j = some r) (h : PatSt R D live n m a Hr) : PatSt R2 D live n m a Hr := by
  obtain ⟨r, vs, e, ht, hB, hn⟩ := h
  exact ⟨r, vs, e, RelL.rows hx ht, RelB.rows hx hB, hn⟩
theorem Bun.rows {Ds : List Nat} {n0 : Nat} {w0 : World} {H : Mem} {Hr : List RBlk} {w : World} (h : Bun R Ds n0 w0 H Hr w) (hd : Rd R2 (bs (nums Hr)) w) : Bun R2 Ds n0 w0 H Hr w := ⟨⟨h.own.1, hd⟩, h.marks, h.nodup, h.fresh, h.below, h.size⟩
/-- A variable that stands for something else too. -/
theorem PatSt.swap {live : List (Nat × AV)} {n d : Nat} {m : AM} {a : Act} {Hr : List RBlk} {V : Value} {v : AV} (h : PatSt R D ((d, .raw V) :: live) n m a Hr) (hv : Rel R (nums Hr) v V) : PatSt R D ((d, v) :: live) n m a Hr := by
  obtain ⟨r, vs, e, ht, hB, hn⟩ := h
  refine ⟨r, vs, e, ?_, hB, hn⟩
  have key : ∀ (k i : Nat) (us : List Value), RelL R (nums Hr) (pat ((d, .raw V) :: live) r i k) us → RelL R (nums Hr) (pat ((d, v) :: live) r i k) us := by
    intro k
    induction k with
    | zero => intro i us h; unfold pat at h ⊢; exact h
    | succ k ih =>
      intro i us h
      unfold pat at h ⊢
      cases h with | cons h1 h2 =>
      refine .cons ?_ (ih _ _ h2)
      unfold look at h1 ⊢
      cases hb : Nat.beq i d <;> simp only [hb, cond_true, cond_false] at h1 ⊢
      · exact h1
      · cases h1; exact hv
  exact key _ _ _ ht
end
def regOps : Code → List Oper
  | .region _ ops _ => ops.toList
  | _ => []
def isReg : Code → Bool
  | .region _ _ d => !d
  | _ => false
theorem wp_reg {P : Program} {c : Code} {Q : Exit → Act → World → Prop} {a : Act} {w : World} (hc : isReg c = true) (h : wpList P (regOps c).toArray Q (regOps c) a w) : c.wp P Q a w := by
  unfold isReg at hc
  split at hc
  · rename_i id ops d
    have hd : d = false := by simpa using hc
    subst hd
    simp only [regOps, Array.toArray_toList] at h
    exact wp_region_list h
  · cases hc
def isLp : Code → Bool
  | .loop _ => true
  | _ => false
def lpB : Code → Code
  | .loop c => c
  | _ => .skip
def isBk : Code → Bool
  | .block _ _ => true
  | _ => false
def bkI : Code → Nat
  | .block i _ => i
  | _ => 0
def bkB : Code → Code
  | .block _ c => c
  | _ => .skip
theorem wp_lp {P : Program} {c : Code} {Q : Exit → Act → World → Prop} {a : Act} {w : World} (n : Nat) (hc : isLp c = true) (h : Code.rounds P (lpB c) Q n a w) : c.wp P Q a w := by
  unfold isLp at hc
  split at hc
  · exact wp_loop_rounds n h
  · cases hc
theorem wp_bk {P : Program} {c : Code} {Q : Exit → Act → World → Prop} {a : Act} {w : World} (hc : isBk c = true) (h : (bkB c).wp P (Exit.inBlock (bkI c) Q) a w) : c.wp P Q a w := by
  unfold isBk at hc
  split at hc
  · exact wp_block h
  · cases hc
def eqE : AExit → AExit → Bool
  | .normal, .normal => true
  | .ret, .ret => true
  | .exit i, .exit j => Nat.beq i j
  | .goto i, .goto j => Nat.beq i j
  | _, _ => false
theorem eqE_eq {a b : AExit} (h : eqE a b = true) : a = b := by
  cases a <;> cases b <;> simp only [eqE] at h <;> first | rfl | (cases h; done) | (rw [Nat.eq_of_beq_eq_true h])
def chE (e0 : AExit) (live : List (Nat × AV)) (n : Nat) (H : Mem) (ds : List Bool) : AExit → ASt → Prop := fun e st =>
  (eqE e e0, st.tl.length, live.map (fun p => st.tl[p.1]?), st.m.H, st.m.ds) = (true, n, live.map (fun p => some p.2), H, ds)
section
variable {E : Env} (hE : EnvOK E) {Ds : List Nat} {n0 : Nat} {w0 : World}
include hE
/-- Code, however it ends. -/
theorem ev_codeE (nf : Nat) (e0 : AExit) {c : Code} {live live' : List (Nat × AV)} {n : Nat} {m : AM} {H' : Mem} {ds' : List Bool} (h : ∀ r, Is (evT E nf (.code c) ⟨pat live r 0 n, m⟩ (chE e0 live' n H' ds')))
    {a : Act} {Hr : List RBlk} {w : World} {Q : Exit → Act → World → Prop} (hP : PatSt E.rows (Ds.map markD) live n m a Hr) (hB : Bun E.rows Ds n0 w0 m.H Hr w)
    (hk : ∀ a' Hr' w', PatSt E.rows (Ds.map markD) live' n ⟨H', ds', m.wr⟩ a' Hr' → Bun E.rows Ds n0 w0 H' Hr' w' → Stp m.wr Hr w Hr' w' → Q e0.real a' w') : c.wp E.P Q a w := by
  obtain ⟨r, hR⟩ := hP
  obtain ⟨e, st', h1, hlo, hs⟩ := ev_sound hE nf (.code c) _ _ (h r).is
  refine wp_mono (hs a Hr w hR hB.own) ?_
  rintro e' a' w' ⟨rfl, Hr', hR', hO', hS⟩
  unfold chE at h1
  simp only [Prod.mk.injEq] at h1
  obtain ⟨he, hn, hl, rfl, rfl⟩ := h1
  rw [eqE_eq he]
  have hP' := patSt_of (live := live) hR' hn (lives_of hl)
  have hm : st'.m = ⟨st'.m.H, st'.m.ds, m.wr⟩ := by rw [← hlo]
  rw [hm] at hP'
  exact hk a' Hr' w' hP' (hB.stp hO' hS) hS
theorem list_sound2 {call : CallF} (hC : CallOK E call) (ops l2 : List Oper) : ∀ (l : List Oper) (st : ASt) (K : ASt → Prop), listP E call ops l st K → ∃ st', K st' ∧ st'.m.wr = st.m.wr ∧ ∀ {D : List Deferred} a Hr w, RelSt E.rows D st a Hr → OwnK E.rows st.m.H Hr w → ∀ Q : Exit → Act → World → Prop,
    (∀ a' Hr' w', RelSt E.rows D st' a' Hr' → OwnK E.rows st'.m.H Hr' w' → Stp st.m.wr Hr w Hr' w' → wpList E.P ops.toArray Q l2 a' w') → wpList E.P ops.toArray Q (l ++ l2) a w
  | [], st, K, h => ⟨st, h, rfl, fun a Hr w hR hO Q hq => hq a Hr w hR hO (.refl _ _ _)⟩
  | o :: r, st, K, h => by
    obtain ⟨st1, st2, hk, h1, h2, h3, h4⟩ := step_sound hE hC h
    obtain ⟨st', hK, hlo, hl⟩ := list_sound2 hC ops l2 r st2 K hk
    rcases h4 with ⟨hw, hd⟩ | ⟨_, hw, rfl⟩
    · refine ⟨st', hK, hlo.trans (hd.lo.trans h2), fun a Hr w hR hO Q hq => ?_⟩
      rw [List.cons_append]
      apply wpList_step
      intro Kn hKn
      rw [if_pos (hw a Hr hR)]
      refine did_seq hd (h1 a Hr hR) (by rw [h3]; exact hO) fun a' Hr' w' hR' hO' hS => hKn _ _ (hl a' Hr' w' hR' hO' Q fun a2 Hr2 w2 hR2 hO2 hS2 => hq a2 Hr2 w2 hR2 hO2 ?_)
      rw [hd.lo, h2] at hS2
      rw [h2] at hS
      exact hS.trans hS2
    · refine ⟨st', hK, hlo.trans h2, fun a Hr w hR hO Q hq => ?_⟩
      rw [List.cons_append]
      apply wpList_step
      intro Kn hKn
      rw [if_neg (by rw [hw a Hr hR]; simp)]
      obtain ⟨vs, rfl, ht, hB, hn⟩ := h1 a Hr hR
      rename_i D'
      obtain ⟨vs', e, hv⟩ := putA_rel (D := D') (v := undefA) (V := undef) ht o.dst .raw
      refine hKn _ _ (hl _ Hr w ⟨vs', e, hv, hB, hn⟩ (by show OwnK E.rows st1.m.H Hr w; rw [h3]; exact hO) Q fun a2 Hr2 w2 hR2 hO2 hS2 => hq a2 Hr2 w2 hR2 hO2 ?_)
      have : (st1.put o.dst undefA).m.wr = st.m.wr := h2
      rw [this] at hS2
      exact hS2
/-- The first operations of a list. -/
theorem ev_ops (nf k : Nat) {ops l : List Oper} {live live' : List (Nat × AV)} {n : Nat} {m : AM} {H' : Mem} {ds' : List Bool} (h : ∀ r, Is (listP E (callWith E (evT E nf)) ops (l.take k) ⟨pat live r 0 n, m⟩ (chK live' n H' ds' .normal)))
    {a : Act} {Hr : List RBlk} {w : World} {Q : Exit → Act → World → Prop} (hP : PatSt E.rows (Ds.map markD) live n m a Hr) (hB : Bun E.rows Ds n0 w0 m.H Hr w)
    (hk : ∀ a' Hr' w', PatSt E.rows (Ds.map markD) live' n ⟨H', ds', m.wr⟩ a' Hr' → Bun E.rows Ds n0 w0 H' Hr' w' → Stp m.wr Hr w Hr' w' → wpList E.P ops.toArray Q (l.drop k) a' w') : wpList E.P ops.toArray Q l a w := by
  obtain ⟨r, hR⟩ := hP
  obtain ⟨st', h1, hlo, h2⟩ := list_sound2 hE (call_ok hE (ev_sound hE nf)) ops (l.drop k) (l.take k) _ _ (h r).is
  rw [← List.take_append_drop k l]
  refine h2 a Hr w hR hB.own Q fun a' Hr' w' hR' hO' hS => ?_
  unfold chK at h1
  simp only [Prod.mk.injEq] at h1
  obtain ⟨_, hn, hl, rfl, rfl⟩ := h1
  have hP' := patSt_of (live := live') hR' hn (lives_of hl)
  have hm : st'.m = ⟨st'.m.H, st'.m.ds, m.wr⟩ := by rw [← hlo]
  rw [hm] at hP'
  have := hk a' Hr' w' hP' (hB.stp hO' hS) hS
  simpa using this
end
def evalCall (tl : List AV) : List Oper → Option (FuncId × List AV × Tmp)
  | ⟨some d, .call ⟨.value g, xs, _⟩, _, _, _, none⟩ :: _ => match evO tl g, evs (evO tl) xs.toList with
    | some (.func (.func f) cap), some vs => some (f, vs ++ cap, d)
    | _, _ => none
  | _ => none
theorem wpList_nil {P : Program} {ops : Array Oper} {Q : Exit → Act → World → Prop} {a : Act} {w : World} (h : Q .normal a w) : wpList P ops Q [] a w := h
theorem look_lt {live : List (Nat × AV)} {n i : Nat} {v : AV} (hk : live.all (fun p => Nat.blt p.1 n) = true) (h : look i live = some v) : i < n := by
  induction live with
  | nil => cases h
  | cons p r ih =>
    rw [List.all_cons, Bool.and_eq_true] at hk
    unfold look at h
    cases hb : Nat.beq i p.1 <;> simp only [hb, cond_true, cond_false] at h
    · exact ih hk.2 h
    · rw [Nat.eq_of_beq_eq_true hb]; have := hk.1; rwa [Nat.blt_eq] at this
/-- A call whose answer is told from outside. -/
theorem ev_call {E : Env} {Ds : List Nat} {n0 : Nat} {w0 : World} {ops l : List Oper} {live : List (Nat × AV)} {n d : Nat} {m : AM} {f : FuncId} {avs : List AV} {Post : Value → World → Prop} (hcall : ∀ r, evalCall (pat live r 0 n) l = some (f, avs, d)) (hd : d < n) (hkeys : live.all (fun p => Nat.blt p.1 n) = true) (hen : Enters E.P f)
    {a : Act} {Hr : List RBlk} {w : World} {Q : Exit → Act → World → Prop} (hP : PatSt E.rows (Ds.map markD) live n m a Hr) (hB : Bun E.rows Ds n0 w0 m.H Hr w)
    (hc : ∀ Args, RelL E.rows (nums Hr) avs Args → Calls E.P f Args.toArray w fun e w' => ∃ V, e = .returned V ∧ Below w.heap.size w w' ∧ Post V w')
    (hk : ∀ V a' w', Post V w' → Below w.heap.size w w' → PatSt E.rows (Ds.map markD) ((d, .raw V) :: live) n m a' Hr → Bun E.rows Ds n0 w0 m.H Hr w' → wpList E.P ops.toArray Q l.tail a' w') : wpList E.P ops.toArray Q l a w := by
  obtain ⟨r, vs, rfl, ht, hBl, hnd⟩ := hP
  have h := hcall r
  unfold evalCall at h
  split at h
  · rename_i dd g xs ts ty pos aft os
    split at h
    · rename_i f' cap us hg hvs
      simp only [Option.some.injEq, Prod.mk.injEq] at h
      obtain ⟨rfl, rfl, rfl⟩ := h
      have e1 := evO_sound (D := Ds.map markD) ht _ _ hg
      generalize hge : (⟨vs.toArray, Ds.map markD⟩ : Act).eval g = gv at e1
      cases e1 with | func hcaps =>
      rename_i caps
      have e2 := evs_sound (evO_sound (D := Ds.map markD) ht) hvs
      apply wpList_step
      intro Kn hKn
      rw [if_pos (by simp [Region.wanted])]
      have hrun := run_call (P := E.P) hen (g := g) (xs := xs) (ts := ts) hge (dst := some dd) (ty := ty) (pos := pos) (aft := aft) (gd := none) w
      unfold Oper.wp
      rw [hrun]
      simp only [Oper.upon]
      have hA : (xs.map (⟨vs.toArray, Ds.map markD⟩ : Act).eval ++ caps.toArray) = (xs.toList.map (⟨vs.toArray, Ds.map markD⟩ : Act).eval ++ caps).toArray := by
        apply Array.toList_inj.1; simp
      rw [hA]
      refine (hc _ (e2.append hcaps)).mono ?_
      rintro e w' ⟨V, rfl, hb, hp⟩
      refine hKn _ _ (hk V _ w' hp hb ?_ (hB.stp ⟨hB.own.1.grow hb, (Stp.of_below (wr := fun _ => false) hb).rd hB.own.2⟩ (.of_below (wr := fun _ => false) hb)))
      have hl := ht.len
      rw [pat_len] at hl
      refine patSt_of (live := live) (st := ⟨(pat live r 0 n).set dd (.raw V), m⟩) ⟨vs.set dd V, by simp [Act.put], ht.set .raw, hBl, hnd⟩ (by simp [pat_len]) (fun i v hv => ?_)
      unfold look at hv
      cases hb' : Nat.beq i dd <;> simp only [hb', cond_true, cond_false] at hv
      · have hne : i ≠ dd := Nat.ne_of_beq_eq_false hb'
        rw [List.getElem?_set_ne (Ne.symm hne)]
        have key : ∀ (k i0 : Nat), i0 ≤ i → i < i0 + k → (pat live r i0 k)[i - i0]? = some v := by
          intro k
          induction k with
          | zero => intro i0 h1 h2; omega
          | succ k ih =>
            intro i0 h1 h2
            unfold pat
            by_cases hi : i = i0
            · subst hi; simp [hv]
            · rw [show i - i0 = (i - (i0 + 1)) + 1 by omega]
              simpa using ih (i0 + 1) (by omega) (by omega)
        by_cases hin : i < n
        · simpa using key n 0 (Nat.zero_le _) (by omega)
        · exact absurd (look_lt hkeys hv) hin
      · rw [Nat.eq_of_beq_eq_true hb']; cases hv
        rw [List.getElem?_set_self (by rw [pat_len]; exact hd)]
    · cases h
  · cases h
/-! ### A row of words that a call answers. -/
def rowW (A : Option Addr) (xs : List (BitVec 256)) : RowI := ⟨A, xs.length, 4, fun i => wC (xs.getD i.toNat 0#256), fun i => [.int .u64 (L (xs.getD i 0#256) 0), .int .u64 (L (xs.getD i 0#256) 1), .int .u64 (L (xs.getD i 0#256) 2), .int .u64 (L (xs.getD i 0#256) 3)], []⟩
def rows1 (r : RowI) : Rws
  | 0 => some r
  | _ => none
theorem rows1_inv {r r' : RowI} {j : Nat} (h : rows1 r j = some r') : j = 0 ∧ r' = r := by
  cases j with
  | zero => exact ⟨rfl, (Option.some.inj h).symm⟩
  | succ j => cases h
end

section
section
variable {D : List Deferred} {R : Rws}
def idxOf (l : Nat) : List Nat → Option Nat
  | [] => none
  | x :: r => bif Nat.beq l x then some 0 else (idxOf l r).map (· + 1)
theorem idxOf_get {l i : Nat} {sel : List Nat} (h : idxOf l sel = some i) : sel[i]? = some l := by
  induction sel generalizing i with
  | nil => cases h
  | cons x r ih =>
    unfold idxOf at h
    cases hb : Nat.beq l x <;> simp only [hb, cond_true, cond_false] at h
    · rw [Option.map_eq_some_iff] at h
      obtain ⟨j, h1, rfl⟩ := h
      simpa using ih h1
    · cases h; rw [Nat.eq_of_beq_eq_true hb]; rfl
mutual
def renA (sel : List Nat) : AV → Option AV
  | .ptr l o => (idxOf l sel).map fun l' => .ptr l' o
  | .slice l o n c => (idxOf l sel).map fun l' => .slice l' o n c
  | .func fn cs => (renL sel cs).map fun cs' => .func fn cs'
  | .agg cs => (renL sel cs).map fun cs' => .agg cs'
  | .tuple cs => (renL sel cs).map fun cs' => .tuple cs'
  | .bool l b => some (.bool l b)
  | .int k l n => some (.int k l n)
  | .bv k a => some (.bv k a)
  | .raw v => some (.raw v)
  | .rsl j n c => some (.rsl j n c)
  | .rptr j i o => some (.rptr j i o)
  | .xsl j o n => some (.xsl j o n)
  | .gsl k l o n => (idxOf l sel).map fun l' => .gsl k l' o n
  | .gptr l i o => (idxOf l sel).map fun l' => .gptr l' i o
  | .mp l => (idxOf l sel).map fun l' => .mp l'
  | .meth fn fs cs => match renL sel fs, renL sel cs with
    | some a, some b => some (.meth fn a b)
    | _, _ => none
  | .junk => some .junk
  | .str s => some (.str s)
def renL (sel : List Nat) : List AV → Option (List AV)
  | [] => some []
  | c :: r => match renA sel c, renL sel r with
    | some c', some r' => some (c' :: r')
    | _, _ => none
end
def renI (sel : List Nat) : AIt → Option AIt
  | .cells cs t => (renL sel cs).map fun cs' => .cells cs' t
  | .row n s F t none => some (.row n s F t none)
  | .row n s F t (some o) => (idxOf o sel).map fun o' => .row n s F t (some o')
  | .map m => some (.map m)
  | .gone => some .gone
mutual
theorem Rel.ren {ρ ρ' : Nums} {sel : List Nat} (hρ : ∀ i l : Nat, sel[i]? = some l → ρ'[i]? = ρ[l]?) : ∀ {v v' : AV} {V : Value}, renA sel v = some v' → Rel R ρ v V → Rel R ρ' v' V
  | _, _, _, h, .bool => by simp only [renA, Option.some.injEq] at h; subst h; exact .bool
  | _, _, _, h, .int => by simp only [renA, Option.some.injEq] at h; subst h; exact .int
  | _, _, _, h, .bv hs => by simp only [renA, Option.some.injEq] at h; subst h; exact .bv hs
  | _, _, _, h, .raw => by simp only [renA, Option.some.injEq] at h; subst h; exact .raw
  | _, _, _, h, .rsl h1 h2 => by simp only [renA, Option.some.injEq] at h; subst h; exact .rsl h1 h2
  | _, _, _, h, .rptr h1 h2 h3 => by simp only [renA, Option.some.injEq] at h; subst h; exact .rptr h1 h2 h3
  | _, _, _, h, .xsl h1 h2 h3 h4 => by simp only [renA, Option.some.injEq] at h; subst h; exact .xsl h1 h2 h3 h4
  | _, _, _, h, .junk => by simp only [renA, Option.some.injEq] at h; subst h; exact .junk
  | _, _, _, h, .str => by simp only [renA, Option.some.injEq] at h; subst h; exact .str
  | _, _, _, h, .gsl hb h1 h2 h3 h4 => by
    simp only [renA, Option.map_eq_some_iff] at h
    obtain ⟨l', e1, rfl⟩ := h
    exact .gsl ((hρ _ _ (idxOf_get e1)).trans hb) h1 h2 h3 h4
  | _, _, _, h, .gptr hb => by
    simp only [renA, Option.map_eq_some_iff] at h
    obtain ⟨l', e1, rfl⟩ := h
    exact .gptr ((hρ _ _ (idxOf_get e1)).trans hb)
  | _, _, _, h, .mp hb => by
    simp only [renA, Option.map_eq_some_iff] at h
    obtain ⟨l', e1, rfl⟩ := h
    exact .mp ((hρ _ _ (idxOf_get e1)).trans hb)
  | _, _, _, h, .meth hs ks => by
    simp only [renA] at h
    split at h
    · rename_i e1 e2
      cases h
      exact .meth (RelL.ren hρ e1 hs) (RelL.ren hρ e2 ks)
    · cases h
  | _, _, _, h, .ptr hb => by
    simp only [renA, Option.map_eq_some_iff] at h
    obtain ⟨l', h1, rfl⟩ := h
    exact .ptr ((hρ _ _ (idxOf_get h1)).trans hb)
  | _, _, _, h, .slice hb => by
    simp only [renA, Option.map_eq_some_iff] at h
    obtain ⟨l', h1, rfl⟩ := h
    exact .slice ((hρ _ _ (idxOf_get h1)).trans hb)
  | _, _, _, h, .func hs => by
    simp only [renA, Option.map_eq_some_iff] at h
    obtain ⟨l', h1, rfl⟩ := h
    exact .func (RelL.ren hρ h1 hs)
  | _, _, _, h, .agg hs => by
    simp only [renA, Option.map_eq_some_iff] at h
    obtain ⟨l', h1, rfl⟩ := h
    exact .agg (RelL.ren hρ h1 hs)
  | _, _, _, h, .tuple hs => by
    simp only [renA, Option.map_eq_some_iff] at h
    obtain ⟨l', h1, rfl⟩ := h
    exact .tuple (RelL.ren hρ h1 hs)
theorem RelL.ren {ρ ρ' : Nums} {sel : List Nat} (hρ : ∀ i l : Nat, sel[i]? = some l → ρ'[i]? = ρ[l]?) : ∀ {v v' : List AV} {V : List Value}, renL sel v = some v' → RelL R ρ v V → RelL R ρ' v' V
  | _, _, _, h, .nil => by simp only [renL, Option.some.injEq] at h; subst h; exact .nil
  | _, _, _, h, .cons h1 h2 => by
    unfold renL at h
    split at h
    · rename_i e1 e2; cases h; exact .cons (Rel.ren hρ e1 h1) (RelL.ren hρ e2 h2)
    · cases h
end
def nodupN : List Nat → Bool
  | [] => true
  | x :: r => !memN x r && nodupN r
theorem memN_iff {x : Nat} {l : List Nat} : memN x l = true ↔ x ∈ l := by
  induction l with
  | nil => simp [memN]
  | cons y r ih =>
    unfold memN
    rw [Bool.or_eq_true, List.mem_cons, ih]
    constructor
    · rintro (h | h)
      · exact .inl (Nat.eq_of_beq_eq_true h)
      · exact .inr h
    · rintro (h | h)
      · exact .inl (by rw [h]; simp)
      · exact .inr h
theorem nodupN_spec : ∀ {l : List Nat}, nodupN l = true → l.Nodup
  | [], _ => List.nodup_nil
  | x :: r, h => by
    unfold nodupN at h
    rw [Bool.and_eq_true] at h
    refine List.nodup_cons.2 ⟨fun hm => ?_, nodupN_spec h.2⟩
    rw [memN_iff.2 hm] at h
    simp at h
/-- The blocks of these labels. -/
def pick (sel : List Nat) (Hr : List RBlk) : List RBlk := sel.filterMap fun l => Hr[l]?
theorem pick_get {Hr : List RBlk} : ∀ {sel : List Nat}, (∀ l ∈ sel, l < Hr.length) → ∀ i l : Nat, sel[i]? = some l → (pick sel Hr)[i]? = Hr[l]?
  | [], _, i, l, h => by cases h
  | x :: r, hv, i, l, h => by
    have hx : x < Hr.length := hv x (by simp)
    have e : pick (x :: r) Hr = Hr[x] :: pick r Hr := by unfold pick; rw [List.filterMap_cons]; simp [List.getElem?_eq_getElem hx]
    rw [e]
    cases i with
    | zero => simp at h; subst h; simp [List.getElem?_eq_getElem hx]
    | succ i => simpa using pick_get (fun l hl => hv l (by simp [hl])) i l (by simpa using h)
theorem pick_mem {Hr : List RBlk} {sel : List Nat} {p : RBlk} (h : p ∈ pick sel Hr) : p ∈ Hr := by
  unfold pick at h
  rw [List.mem_filterMap] at h
  obtain ⟨l, _, h⟩ := h
  exact List.mem_of_getElem? h
theorem pick_len {Hr : List RBlk} : ∀ {sel : List Nat}, (∀ l ∈ sel, l < Hr.length) → (pick sel Hr).length = sel.length
  | [], _ => rfl
  | x :: r, hv => by
    have hx : x < Hr.length := hv x (by simp)
    have e : pick (x :: r) Hr = Hr[x] :: pick r Hr := by unfold pick; rw [List.filterMap_cons]; simp [List.getElem?_eq_getElem hx]
    rw [e, List.length_cons, List.length_cons, pick_len (fun l hl => hv l (by simp [hl]))]
theorem nums_pick {Hr : List RBlk} {sel : List Nat} (hv : ∀ l ∈ sel, l < Hr.length) (i l : Nat) (h : sel[i]? = some l) : (nums (pick sel Hr))[i]? = (nums Hr)[l]? := by
  simp only [nums, List.getElem?_map, pick_get hv i l h]
theorem nums_pick_mem {Hr : List RBlk} {sel : List Nat} {b : Num} (h : b ∈ nums (pick sel Hr)) : b ∈ nums Hr := by
  simp only [nums, List.mem_map] at h ⊢
  obtain ⟨p, hp, e⟩ := h
  exact ⟨p, pick_mem hp, e⟩
theorem renI_live {sel : List Nat} {it jt : AIt} (h : renI sel it = some jt) : jt.live = it.live := by
  unfold renI at h
  split at h
  · rw [Option.map_eq_some_iff] at h; obtain ⟨_, _, rfl⟩ := h; rfl
  · cases h; rfl
  · rw [Option.map_eq_some_iff] at h; obtain ⟨_, _, rfl⟩ := h; rfl
  · cases h; rfl
  · cases h; rfl
/-- The owner, by its new label. -/
theorem renI_owner {sel : List Nat} {it jt : AIt} {i l : Nat} (h : renI sel it = some jt) (hl : sel[i]? = some l) : sel[jt.owner i]? = some (it.owner l) := by
  unfold renI at h
  split at h
  · rw [Option.map_eq_some_iff] at h; obtain ⟨_, _, rfl⟩ := h; exact hl
  · cases h; exact hl
  · rw [Option.map_eq_some_iff] at h; obtain ⟨o', ho, rfl⟩ := h; exact idxOf_get ho
  · cases h; exact hl
  · cases h; exact hl
theorem RelI.ren {ρ ρ' : Nums} {sel : List Nat} (hρ : ∀ i l : Nat, sel[i]? = some l → ρ'[i]? = ρ[l]?) {it jt : AIt} {p : RBlk} (h : renI sel it = some jt) (hr : RelI R ρ it p) : RelI R ρ' jt p := by
  cases hr with
  | cells hc hq =>
    simp only [renI, Option.map_eq_some_iff] at h
    obtain ⟨cs', h1, rfl⟩ := h
    exact .cells (RelL.ren hρ h1 hc) hq
  | @row0 s F t own b o hq =>
    cases own with
    | none => simp only [renI, Option.some.injEq] at h; subst h; exact .row0 hq
    | some o =>
      simp only [renI, Option.map_eq_some_iff] at h
      obtain ⟨o', _, rfl⟩ := h
      exact .row0 hq
  | @row n s F t own b cur c a b c d e =>
    cases own with
    | none => simp only [renI, Option.some.injEq] at h; subst h; exact .row a b c d e
    | some o =>
      simp only [renI, Option.map_eq_some_iff] at h
      obtain ⟨o', _, rfl⟩ := h
      exact .row a b c d e
  | map a b => simp only [renI, Option.some.injEq] at h; subst h; exact .map a b
  | gone => simp only [renI, Option.some.injEq] at h; subst h; exact .gone
end
def selK (sel : List Nat) (e0 : AExit) (live : List (Nat × AV)) (n : Nat) (H : Mem) : AExit → ASt → Prop := fun e st =>
  (eqE e e0, st.tl.length, live.map (fun p => (st.tl[p.1]?).bind (renA sel)), sel.map (fun l => (st.m.H[l]?).bind (renI sel)), st.m.ds) = (true, n, live.map (fun p => some p.2), H.map some, ([] : List Bool))
abbrev selR (live : List (Nat × AV)) (n : Nat) (H : Mem) : Bool × Nat × List (Option AV) × List (Option AIt) × List Bool := (true, n, live.map (fun p => some p.2), H.map some, [])
def allW : Nat → Bool := fun _ => true
theorem lives_ren {ρ ρ' : Nums} {sel : List Nat} {R : Rws} (hρ : ∀ i l : Nat, sel[i]? = some l → ρ'[i]? = ρ[l]?) {tl : List AV} {vs : List Value} (ht : RelL R ρ tl vs) {live : List (Nat × AV)} (hl : live.map (fun p => (tl[p.1]?).bind (renA sel)) = live.map (fun p => some p.2)) :
    ∃ tl', RelL R ρ' tl' vs ∧ tl'.length = tl.length ∧ Lives tl' live := by
  have key : ∀ (tl : List AV) (vs : List Value), RelL R ρ tl vs → ∀ i0, (∀ i v, look (i0 + i) live = some v → (tl[i]?).bind (renA sel) = some v) → ∃ tl', RelL R ρ' tl' vs ∧ tl'.length = tl.length ∧ ∀ i v, look (i0 + i) live = some v → tl'[i]? = some v := by
    intro tl vs h
    induction tl generalizing vs with
    | nil =>
      intro i0 hl
      cases h
      exact ⟨[], .nil, rfl, fun i v hv => by have := hl i v hv; simp at this⟩
    | cons c cs ih =>
      intro i0 hl
      cases h with | cons h1 h2 =>
      rename_i V Vs
      obtain ⟨tl', q1, q2, q3⟩ := ih Vs h2 (i0 + 1) (fun i v hv => by have := hl (i + 1) v (by rw [← hv]; congr 1; omega); simpa using this)
      rcases hq : look i0 live with _ | v
      · refine ⟨.raw V :: tl', .cons .raw q1, by simp [q2], fun i v hv => ?_⟩
        cases i with
        | zero => rw [Nat.add_zero, hq] at hv; cases hv
        | succ i => simpa using q3 i v (by rw [← hv]; congr 1; omega)
      · have hc := hl 0 v (by simpa using hq)
        simp at hc
        refine ⟨v :: tl', .cons (Rel.ren hρ hc h1) q1, by simp [q2], fun i u hu => ?_⟩
        cases i with
        | zero => rw [Nat.add_zero, hq] at hu; cases hu; rfl
        | succ i => simpa using q3 i u (by rw [← hu]; congr 1; omega)
  have hl' : ∀ i v, look (0 + i) live = some v → (tl[i]?).bind (renA sel) = some v := by
    intro i v hv
    rw [Nat.zero_add] at hv
    have aux : ∀ (l : List (Nat × AV)), l.map (fun p => (tl[p.1]?).bind (renA sel)) = l.map (fun p => some p.2) → look i l = some v → (tl[i]?).bind (renA sel) = some v := by
      intro l
      induction l with
      | nil => intro _ h; cases h
      | cons p r ih =>
        intro he h
        simp only [List.map_cons, List.cons.injEq] at he
        obtain ⟨j, u⟩ := p
        unfold look at h
        cases hb : Nat.beq i j <;> simp only [hb, cond_true, cond_false] at h
        · exact ih he.2 h
        · rw [Nat.eq_of_beq_eq_true hb]; cases h; exact he.1
    exact aux live hl hv
  obtain ⟨tl', q1, q2, q3⟩ := key tl vs ht 0 hl'
  exact ⟨tl', q1, q2, fun i v hv => q3 i v (by simpa using hv)⟩
section
variable {E : Env} (hE : EnvOK E) {Ds : List Nat} {n0 : Nat} {w0 : World}
include hE
/-- Code, however it ends; of the blocks only these are kept. -/
theorem ev_codeS (nf : Nat) (sel : List Nat) (e0 : AExit) {c : Code} {live live' : List (Nat × AV)} {n : Nat} {H H' : Mem} {ds ds' : List Bool} (hnd : nodupN sel = true) (h : ∀ r, Is (evT E nf (.code c) ⟨pat live r 0 n, ⟨H, ds, allW⟩⟩ (selK sel e0 live' n H')))
    {a : Act} {Hr : List RBlk} {w : World} {Q : Exit → Act → World → Prop} (hP : PatSt E.rows (Ds.map markD) live n ⟨H, ds', allW⟩ a Hr) (hB : Bun E.rows Ds n0 w0 H Hr w)
    (hk : ∀ a' Hr' w', PatSt E.rows (Ds.map markD) live' n ⟨H', [], allW⟩ a' Hr' → Bun E.rows Ds n0 w0 H' Hr' w' → Q e0.real a' w') : c.wp E.P Q a w := by
  obtain ⟨r, hR⟩ := hP
  obtain ⟨e, st', h1, hlo, hs⟩ := ev_sound hE nf (.code c) _ _ (h r).is
  refine wp_mono (hs a Hr w hR hB.own) ?_
  rintro e' a' w' ⟨rfl, Hr', hR', hO', hS⟩
  unfold selK at h1
  simp only [Prod.mk.injEq] at h1
  obtain ⟨he, hn, hl, hH, hd⟩ := h1
  rw [eqE_eq he]
  have hB' := hB.stp hO' hS
  obtain ⟨vs, rfl, ht, hBl, hnod⟩ := hR'
  have hbl := hBl.len
  have hlen : H'.length = sel.length := by have := congrArg List.length hH; simpa using this.symm
  have hat : ∀ i l : Nat, sel[i]? = some l → ∃ p q : AIt, st'.m.H[l]? = some p ∧ renI sel p = some q ∧ H'[i]? = some q := by
    intro i l hi
    have h2 := congrArg (fun z : List (Option AIt) => z[i]?) hH
    simp only [List.getElem?_map, hi, Option.map_some] at h2
    have hi' : i < H'.length := by rw [hlen]; exact (List.getElem?_eq_some_iff.1 hi).1
    rw [List.getElem?_eq_getElem hi', Option.map_some, Option.some.injEq] at h2
    rw [Option.bind_eq_some_iff] at h2
    obtain ⟨p, h3, h4⟩ := h2
    exact ⟨p, _, h3, h4, List.getElem?_eq_getElem hi'⟩
  have hv : ∀ l ∈ sel, l < Hr'.length := fun l hl => by
    obtain ⟨i, hi, hi'⟩ := List.mem_iff_getElem.1 hl
    obtain ⟨p, q, h3, _, _⟩ := hat i l (by rw [List.getElem?_eq_getElem hi, hi'])
    rw [hbl]; exact (List.getElem?_eq_some_iff.1 h3).1
  have hρ := nums_pick (Hr := Hr') hv
  obtain ⟨tl', t1, t2, t3⟩ := lives_ren hρ ht hl
  have hpk := pick_get (Hr := Hr') hv
  have hto : ∀ (i : Nat) jt q, H'[i]? = some jt → (pick sel Hr')[i]? = some q → ∃ l it, sel[i]? = some l ∧ st'.m.H[l]? = some it ∧ renI sel it = some jt ∧ Hr'[l]? = some q := fun i jt q h1 h2 => by
    have hi2 : i < sel.length := by rw [← hlen]; exact (List.getElem?_eq_some_iff.1 h1).1
    obtain ⟨p, q', h3, h4, h5⟩ := hat i sel[i] (List.getElem?_eq_getElem hi2)
    rw [h1] at h5; cases h5
    exact ⟨sel[i], p, List.getElem?_eq_getElem hi2, h3, h4, (hpk i _ (List.getElem?_eq_getElem hi2)).symm.trans h2⟩
  have hBl' : RelB E.rows (nums (pick sel Hr')) H' (pick sel Hr') := by
    refine ⟨by rw [pick_len hv, hlen], fun i jt q h1 h2 => ?_⟩
    obtain ⟨l, it, e1, e2, e3, e4⟩ := hto i jt q h1 h2
    exact RelI.ren hρ e3 (hBl.2 l it q e2 e4)
  have hnod' : Apart H' (pick sel Hr') := by
    have hsn := nodupN_spec hnd
    intro i j it1 jt1 p1 p2 hne h1 h2 l1 l2 q1 q2 z1 z2 hb
    obtain ⟨l, it, e1, e2, e3, e4⟩ := hto i it1 p1 h1 q1
    obtain ⟨m, jt, f1, f2, f3, f4⟩ := hto j jt1 p2 h2 q2
    have hlm : l ≠ m := fun e => by
      subst e
      have hi := (List.getElem?_eq_some_iff.1 e1).1
      exact hne ((List.getElem?_inj hi hsn).1 (e1.trans f1.symm))
    have ho := hnod l m it jt p1 p2 hlm e2 f2 (by rw [← renI_live e3]; exact l1) (by rw [← renI_live f3]; exact l2) e4 f4 z1 z2 hb
    have g1 := renI_owner e3 e1
    have g2 := renI_owner f3 f1
    rw [ho] at g1
    exact (List.getElem?_inj (List.getElem?_eq_some_iff.1 g1).1 hsn).1 (g1.trans g2.symm)
  have hP' : PatSt E.rows (Ds.map markD) live' n ⟨H', [], allW⟩ ⟨vs.toArray, Ds.map markD⟩ (pick sel Hr') :=
    patSt_of (live := live) (st := ⟨tl', ⟨H', [], allW⟩⟩) ⟨vs, rfl, t1, hBl', hnod'⟩ (by rw [t2]; exact hn) t3
  have hsub : ∀ b, b ∈ bs (nums (pick sel Hr')) → b ∈ bs (nums Hr') := fun b hb => by
    rw [mem_bs] at hb ⊢
    obtain ⟨q, hq, e⟩ := hb
    exact ⟨q, nums_pick_mem hq, e⟩
  refine hk _ _ w' hP' ⟨⟨fun i jt q h1 h2 hq => ?_, hB'.own.2.sub hsub⟩, fun D hD => ?_, hB'.nodup, fun b hb hbp => hB'.fresh b (nums_pick_mem hb) hbp, hB'.below, hB'.size⟩
  · obtain ⟨l, it, e1, e2, e3, e4⟩ := hto i jt q h1 h2
    obtain ⟨g1, g2⟩ := hB'.own.1 l it q e2 e4 hq
    exact ⟨g1, fun hlv => g2 (by rw [← renI_live e3]; exact hlv)⟩
  · obtain ⟨q1, q2, q3⟩ := hB'.marks D hD
    exact ⟨q1, fun hm => q2 (hsub _ hm), q3⟩
omit hE in
/-- A loop of N rounds, and how it is left. -/
theorem ev_loopG {c : Code} (hc : isLp c = true) (N : Nat) (e0 : AExit) (he0 : eqE e0 .normal = false) {n : Nat} (live : Nat → List (Nat × AV)) (H : Nat → Mem) {live' : List (Nat × AV)} {H' : Mem} {Q : Exit → Act → World → Prop}
    (hstep : ∀ k, k < N → ∀ a Hr w (Q' : Exit → Act → World → Prop), PatSt E.rows (Ds.map markD) (live k) n ⟨H k, [], allW⟩ a Hr → Bun E.rows Ds n0 w0 (H k) Hr w → (∀ a' Hr' w', PatSt E.rows (Ds.map markD) (live (k + 1)) n ⟨H (k + 1), [], allW⟩ a' Hr' → Bun E.rows Ds n0 w0 (H (k + 1)) Hr' w' → Q' .normal a' w') → (lpB c).wp E.P Q' a w)
    (hlast : ∀ a Hr w (Q' : Exit → Act → World → Prop), PatSt E.rows (Ds.map markD) (live N) n ⟨H N, [], allW⟩ a Hr → Bun E.rows Ds n0 w0 (H N) Hr w → (∀ a' Hr' w', PatSt E.rows (Ds.map markD) live' n ⟨H', [], allW⟩ a' Hr' → Bun E.rows Ds n0 w0 H' Hr' w' → Q' e0.real a' w') → (lpB c).wp E.P Q' a w)
    {a : Act} {Hr : List RBlk} {w : World} (hP : PatSt E.rows (Ds.map markD) (live 0) n ⟨H 0, [], allW⟩ a Hr) (hB : Bun E.rows Ds n0 w0 (H 0) Hr w)
    (hk : ∀ a' Hr' w', PatSt E.rows (Ds.map markD) live' n ⟨H', [], allW⟩ a' Hr' → Bun E.rows Ds n0 w0 H' Hr' w' → Q e0.real a' w') : c.wp E.P Q a w := by
  refine wp_lp (N + 1) hc ?_
  have key : ∀ j k, k + j = N → ∀ a Hr w, PatSt E.rows (Ds.map markD) (live k) n ⟨H k, [], allW⟩ a Hr → Bun E.rows Ds n0 w0 (H k) Hr w → Code.rounds E.P (lpB c) Q (j + 1) a w := by
    intro j
    induction j with
    | zero =>
      intro k hkN a Hr w hP hB
      obtain rfl : k = N := by omega
      rw [rounds_succ]
      refine hlast a Hr w _ hP hB fun a' Hr' w' hP' hB' => ?_
      have := hk a' Hr' w' hP' hB'
      cases e0 <;> first | exact this | (cases he0)
    | succ j ih =>
      intro k hkN a Hr w hP hB
      rw [rounds_succ]
      exact hstep k (by omega) a Hr w _ hP hB fun a' Hr' w' hP' hB' => ih (k + 1) (by omega) a' Hr' w' hP' hB'
  exact key N 0 (by omega) a Hr w hP hB
end
end

section
open Go.ChangeMaps (setBlock)
variable {D : List Deferred} {R : Rws}
theorem pat_get {live : List (Nat × AV)} {r : Nat → Value} {n i : Nat} {u : AV} (hu : look i live = some u) (hin : i < n) : (pat live r 0 n)[i]? = some u := by
  have key : ∀ (k i0 : Nat), i0 ≤ i → i < i0 + k → (pat live r i0 k)[i - i0]? = some u := by
    intro k
    induction k with
    | zero => intro i0 h1 h2; omega
    | succ k ih =>
      intro i0 h1 h2
      unfold pat
      by_cases hi : i = i0
      · subst hi; simp [hu]
      · rw [show i - i0 = (i - (i0 + 1)) + 1 by omega]
        simpa using ih (i0 + 1) (by omega) (by omega)
  simpa using key n 0 (Nat.zero_le _) (by omega)
theorem patSt_live {live live' : List (Nat × AV)} {n : Nat} {m : AM} {a : Act} {Hr : List RBlk} (hP : PatSt R D live n m a Hr) (hlv : ∀ i v, look i live' = some v → look i live = some v) (hkeys : live'.all (fun p => Nat.blt p.1 n) = true) : PatSt R D live' n m a Hr := by
  obtain ⟨r, hR⟩ := hP
  exact patSt_of (live := live) hR (pat_len _ _ _ _) fun i v hv => pat_get (hlv i v hv) (look_lt hkeys hv)
theorem looks_of {live : List (Nat × AV)} : ∀ {live' : List (Nat × AV)}, live'.map (fun p => look p.1 live) = live'.map (fun p => some p.2) → ∀ i v, look i live' = some v → look i live = some v
  | [], _, i, v, h => by cases h
  | (j, u) :: r, he, i, v, h => by
    simp only [List.map_cons, List.cons.injEq] at he
    unfold look at h
    cases hb : Nat.beq i j <;> simp only [hb, cond_true, cond_false] at h
    · exact looks_of he.2 i v h
    · rw [Nat.eq_of_beq_eq_true hb]; cases h; exact he.1
/-- A variable gets a value. -/
theorem patSt_put {live : List (Nat × AV)} {n d : Nat} {m : AM} {a : Act} {Hr : List RBlk} (hP : PatSt R D live n m a Hr) (hkeys : live.all (fun p => Nat.blt p.1 n) = true) (hd : d < n) {v : AV} {V : Value} (hv : Rel R (nums Hr) v V) : PatSt R D ((d, v) :: live) n m (a.put (some d) V) Hr := by
  obtain ⟨r, vs, rfl, ht, hB, hA⟩ := hP
  have hl := ht.len
  rw [pat_len] at hl
  refine patSt_of (live := live) (st := ⟨(pat live r 0 n).set d v, m⟩) ⟨vs.set d V, by simp [Act.put], ht.set hv, hB, hA⟩ (by simp [pat_len]) (fun i u hu => ?_)
  unfold look at hu
  cases hb' : Nat.beq i d <;> simp only [hb', cond_true, cond_false] at hu
  · have hne : i ≠ d := Nat.ne_of_beq_eq_false hb'
    rw [List.getElem?_set_ne (Ne.symm hne)]
    by_cases hin : i < n
    · exact pat_get hu hin
    · exact absurd (look_lt hkeys hu) hin
  · rw [Nat.eq_of_beq_eq_true hb']; cases hu
    rw [List.getElem?_set_self (by rw [pat_len]; exact hd)]
theorem look_all {f : AV → Bool} : ∀ {live : List (Nat × AV)}, live.all (fun p => f p.2) = true → ∀ i u, look i live = some u → f u = true
  | [], _, i, u, h => by cases h
  | p :: q, hb, i, u, h => by
    rw [List.all_cons, Bool.and_eq_true] at hb
    unfold look at h
    cases hbe : Nat.beq i p.1 <;> simp only [hbe, cond_true, cond_false] at h
    · exact look_all hb.2 i u h
    · cases h; exact hb.1
/-- Labels behind these are forgotten. -/
theorem patSt_trim {live : List (Nat × AV)} {n : Nat} {H T : Mem} {ds ds' : List Bool} {wr wr' : Nat → Bool} {a : Act} {Hr : List RBlk} (hP : PatSt R D live n ⟨H ++ T, ds, wr⟩ a Hr) (hb : live.all (fun p => bddA H.length p.2) = true) (hH : bddH H.length H = true) : PatSt R D live n ⟨H, ds', wr'⟩ a (Hr.take H.length) := by
  obtain ⟨r, vs, rfl, ht, hB, hA⟩ := hP
  have hlen : Hr.length = H.length + T.length := by rw [hB.len]; simp
  have hnt : nums (Hr.take H.length) = (nums Hr).take H.length := by simp [nums]
  have hsp : nums Hr = nums (Hr.take H.length) ++ (nums Hr).drop H.length := by rw [hnt, List.take_append_drop]
  have hnl : (nums (Hr.take H.length)).length = H.length := by simp [nums]; omega
  refine ⟨r, vs, rfl, ?_, ?_, ?_⟩
  · rw [hsp] at ht
    refine RelL.shrink ?_ ht
    rw [hnl]
    have hlk : ∀ i u, look i live = some u → bddA H.length u = true := look_all hb
    have : ∀ k i, bddL H.length (pat live r i k) = true := by
      intro k
      induction k with
      | zero => intro i; rfl
      | succ k ih =>
        intro i
        unfold pat bddL
        rw [Bool.and_eq_true]
        refine ⟨?_, ih _⟩
        split
        · rename_i u hu; exact hlk i u hu
        · rfl
    exact this n 0
  · have h1 := hB.take H.length
    rw [List.take_left] at h1
    rw [hsp] at h1
    exact h1.shrink (by rw [hnl]; exact hH)
  · intro l k it jt p q hne h1 h2 v1 v2 q1 q2 z1 z2 hbb
    rw [List.getElem?_take] at q1 q2
    split at q1
    · split at q2
      · exact hA l k it jt p q hne (getElem?_append_some h1) (getElem?_append_some h2) v1 v2 q1 q2 z1 z2 hbb
      · cases q2
    · cases q1
theorem bun_trim {Ds : List Nat} {n0 : Nat} {w0 : World} {H T : Mem} {Hr : List RBlk} {w : World} (h : Bun R Ds n0 w0 (H ++ T) Hr w) : Bun R Ds n0 w0 H (Hr.take H.length) w := by
  have hsub : ∀ q, q ∈ nums (Hr.take H.length) → q ∈ nums Hr := fun q hq => by
    simp only [nums, List.map_take] at hq
    exact List.mem_of_mem_take hq
  have hsb : ∀ b, b ∈ bs (nums (Hr.take H.length)) → b ∈ bs (nums Hr) := fun b hb => by
    rw [mem_bs] at hb ⊢
    obtain ⟨q, hq, e⟩ := hb
    exact ⟨q, hsub q hq, e⟩
  refine ⟨⟨fun l it p h1 h2 hq => ?_, h.own.2.sub hsb⟩, fun D hD => ?_, h.nodup, fun q hq hqp => h.fresh q (hsub q hq) hqp, h.below, h.size⟩
  · rw [List.getElem?_take] at h2
    split at h2
    · exact h.own.1 l it p (getElem?_append_some h1) h2 hq
    · cases h2
  · obtain ⟨q1, q2, q3⟩ := h.marks D hD
    exact ⟨q1, fun hm => q2 (hsb _ hm), q3⟩
/-! ### What has been gone over. -/
abbrev Ent := List Int × List Value
def keyA : List IntKind → List Int → List AV
  | [], _ => []
  | k :: ks, ns => .int k false (ns.headD 0) :: keyA ks ns.tail
/-- A key's numbers, one by one. -/
def spell : List IntKind → List Int → List Int
  | [], _ => []
  | _ :: ks, ns => ns.headD 0 :: spell ks ns.tail
theorem spell_eq : ∀ {ks : List IntKind} {ns : List Int}, ns.length = ks.length → spell ks ns = ns
  | [], [], _ => rfl
  | [], _ :: _, h => by cases h
  | _ :: _, [], h => by cases h
  | k :: ks, n :: ns, h => by
    unfold spell
    rw [List.headD_cons, List.tail_cons, spell_eq (by simpa using h)]
theorem keyA_rel {ρ : Nums} : ∀ {ks : List IntKind} {ns : List Int}, ns.length = ks.length → RelL R ρ (keyA ks ns) (cellsK ks ns)
  | [], [], _ => .nil
  | [], _ :: _, h => by cases h
  | _ :: _, [], h => by cases h
  | k :: ks, n :: ns, h => .cons .int (keyA_rel (by simpa using h))
structure SeenOK (es : Array MapEntry) (E : List Ent) (seen : Array Nat) (vis : List Ent) : Prop where
  nodup : vis.Nodup
  sub : ∀ p ∈ vis, p ∈ E
  at_ : ∀ (i : Nat) x p, es.toList[i]? = some x → E[i]? = some p → (seen.contains x.born = true ↔ p ∈ vis)
theorem nodup_len {α : Type} : ∀ {l m : List α}, l.Nodup → (∀ x ∈ l, x ∈ m) → l.length ≤ m.length
  | [], m, _, _ => Nat.zero_le _
  | a :: l, m, hn, hs => by
    obtain ⟨h1, h2⟩ := List.nodup_cons.1 hn
    obtain ⟨m1, m2, rfl⟩ := List.append_of_mem (hs a (List.mem_cons_self ..))
    have := nodup_len (m := m1 ++ m2) h2 fun x hx => by
      have h3 := hs x (List.mem_cons_of_mem _ hx)
      rw [List.mem_append, List.mem_cons] at h3
      rw [List.mem_append]
      rcases h3 with h3 | rfl | h3
      · exact .inl h3
      · exact absurd hx h1
      · exact .inr h3
    simp at this ⊢; omega
/-- A map that is gone over: it lies at label lm, what goes over it at label L; these entries have come. -/
structure MRun (R : Rws) (Ds : List Nat) (n0 : Nat) (w0 : World) (wr : Nat → Bool) (L lm : Nat) (m : MapI) (live : List (Nat × AV)) (n : Nat) (H : Mem) (ds : List Bool) (cur : Option Ent) (vis : List Ent) (a : Act) (Hr : List RBlk) (w : World) : Prop where
  pat : PatSt R (Ds.map markD) live n ⟨H, ds, wr⟩ a Hr
  bun : Bun R Ds n0 w0 H Hr w
  hm : H[lm]? = some (.map m)
  hg : H[L]? = some .gone
  wl : wr L = false
  run : ∃ b s es clock q seen c0, Hr[lm]? = some ⟨b, s, .map es clock⟩ ∧ (nums Hr)[L]? = some q ∧ q.ph = false ∧ MapOK m es clock ∧ w.heap[q.b]? = some (.mapIter (some b) clock seen c0) ∧ clock ≤ c0 ∧ SeenOK es m.E seen vis ∧
    (∀ (l : Nat) q', (nums Hr)[l]? = some q' → q'.ph = false → q'.b = q.b → l = L) ∧ (∀ (l : Nat) q', (nums Hr)[l]? = some q' → q'.ph = false → q'.b = b → wr l = false) ∧
    ∀ p, cur = some p → c0 = clock ∧ ∃ (i : Nat) (seen' : Array Nat) (x : MapEntry), seen = seen'.push x.born ∧ es.toList[i]? = some x ∧ m.E[i]? = some p
section
variable {Ds : List Nat} {n0 : Nat} {w0 : World} {wr : Nat → Bool} {L lm : Nat} {m : MapI} {live live' : List (Nat × AV)} {n : Nat} {H H' : Mem} {ds ds' : List Bool} {cur : Option Ent} {vis : List Ent} {a a' : Act} {Hr Hr' : List RBlk} {w w' : World}
/-- It stays so whatever is done. -/
theorem MRun.step (h : MRun R Ds n0 w0 wr L lm m live n H ds cur vis a Hr w) (hP : PatSt R (Ds.map markD) live' n ⟨H', ds', wr⟩ a' Hr') (hB : Bun R Ds n0 w0 H' Hr' w') (hS : Stp wr Hr w Hr' w') (hm : H'[lm]? = some (.map m)) (hg : H'[L]? = some .gone) : MRun R Ds n0 w0 wr L lm m live' n H' ds' cur vis a' Hr' w' := by
  obtain ⟨b, s, es, clock, q, seen, c0, r1, r2, rq, r3, r4, r5, r6, r7, r8, r9⟩ := h.run
  obtain ⟨σ, e1, n1⟩ := hS.ext
  have hrel := hP
  obtain ⟨_, _, _, _, hBl, _⟩ := hrel
  obtain ⟨b', s', es', clock', f1, f2⟩ := hBl.getM hm
  have hq : q.b < w.heap.size := (Array.getElem?_eq_some_iff.1 r4).1
  have hBl0 : RelB R (nums Hr) H Hr := by obtain ⟨_, _, _, _, hB, _⟩ := h.pat; exact hB
  have hmp := hBl0.mph h.hm r1
  have hbw := (h.bun.own.1 lm _ _ h.hm r1 hmp).2 rfl
  have hb : b < w.heap.size := (h.bun.own.1 lm _ _ h.hm r1 hmp).1
  have hnb : b' = b := by
    have g1 := nums_get f1
    rw [e1, getElem?_append_some (nums_get r1)] at g1
    exact (congrArg Num.b (Option.some.inj g1)).symm
  subst hnb
  have hkb := hS.block b' hb fun l q' hl hqp hqb => r8 l q' hl hqp hqb
  have hbw' := (hB.own.1 lm _ _ hm f1 (hBl.mph hm f1)).2 rfl
  have hes : Obj.map es' clock' = Obj.map es clock := by
    have h1 : w'.heap[b']? = some (.map es' clock') := hbw'
    have h2 : w.heap[b']? = some (.map es clock) := hbw
    rw [hkb, h2] at h1
    exact (Option.some.inj h1).symm
  cases hes
  have hkr := hS.block q.b hq fun l q' hl hqp hqb => by rw [r7 l q' hl hqp hqb]; exact h.wl
  refine ⟨hP, hB, hm, hg, h.wl, b', s', es, clock, q, seen, c0, f1, by rw [e1]; exact getElem?_append_some r2, rq, f2, hkr.trans r4, r5, r6, fun l q' hl hqp hqb => ?_, fun l q' hl hqp hqb => ?_, r9⟩
  · rw [e1] at hl
    rcases Nat.lt_or_ge l (nums Hr).length with hlt | hge
    · rw [List.getElem?_append_left hlt] at hl; exact r7 l q' hl hqp hqb
    · rw [List.getElem?_append_right hge] at hl
      rcases n1 q' (List.mem_of_getElem? hl) hqp with h4 | ⟨l2, p, x1, x0, x2, x3⟩
      · omega
      · have := r7 l2 p x1 x0 (x2.trans hqb)
        rw [this, h.wl] at x3; cases x3
  · rw [e1] at hl
    rcases Nat.lt_or_ge l (nums Hr).length with hlt | hge
    · rw [List.getElem?_append_left hlt] at hl; exact r8 l q' hl hqp hqb
    · rw [List.getElem?_append_right hge] at hl
      rcases n1 q' (List.mem_of_getElem? hl) hqp with h4 | ⟨l2, p, x1, x0, x2, x3⟩
      · omega
      · rw [r8 l2 p x1 x0 (x2.trans hqb)] at x3; cases x3
theorem MRun.trim {T : Mem} (h : MRun R Ds n0 w0 wr L lm m live n (H ++ T) ds cur vis a Hr w) (hb : live'.all (fun p => bddA H.length p.2) = true) (hlv : live'.map (fun p => look p.1 live) = live'.map (fun p => some p.2)) (hkeys : live'.all (fun p => Nat.blt p.1 n) = true) (hH : bddH H.length H = true) (hL : L < H.length) (hlm : lm < H.length) : MRun R Ds n0 w0 wr L lm m live' n H ds' none vis a (Hr.take H.length) w := by
  obtain ⟨b, s, es, clock, q, seen, c0, r1, r2, rq, r3, r4, r5, r6, r7, r8, r9⟩ := h.run
  have hm := h.hm
  have hg := h.hg
  rw [List.getElem?_append_left hlm] at hm
  rw [List.getElem?_append_left hL] at hg
  have hP := patSt_live h.pat (looks_of hlv) hkeys
  have hnt : ∀ l q', (nums (Hr.take H.length))[l]? = some q' → (nums Hr)[l]? = some q' := fun l q' hl => by
    simp only [nums, List.map_take] at hl
    rw [List.getElem?_take] at hl
    split at hl
    · exact hl
    · cases hl
  refine ⟨patSt_trim hP hb hH, bun_trim h.bun, hm, hg, h.wl, b, s, es, clock, q, seen, c0, ?_, ?_, rq, r3, r4, r5, r6, fun l q' hl => r7 l q' (hnt l q' hl), fun l q' hl => r8 l q' (hnt l q' hl), fun p hp => by cases hp⟩
  · rw [List.getElem?_take, if_pos hlm]; exact r1
  · simp only [nums, List.map_take]
    rw [List.getElem?_take, if_pos hL]; exact r2
theorem MRun.sel (h : MRun R Ds n0 w0 wr L lm m live n H ds cur vis a Hr w) (hlv : live'.map (fun p => look p.1 live) = live'.map (fun p => some p.2)) (hkeys : live'.all (fun p => Nat.blt p.1 n) = true) : MRun R Ds n0 w0 wr L lm m live' n H ds cur vis a Hr w := ⟨patSt_live h.pat (looks_of hlv) hkeys, h.bun, h.hm, h.hg, h.wl, h.run⟩
theorem MRun.free (h : MRun R Ds n0 w0 wr L lm m live n H ds cur vis a Hr w) : MRun R Ds n0 w0 wr L lm m live n H ds none vis a Hr w := by
  obtain ⟨b, s, es, clock, q, seen, c0, r1, r2, rq, r3, r4, r5, r6, r7, r8, r9⟩ := h.run
  exact ⟨h.pat, h.bun, h.hm, h.hg, h.wl, b, s, es, clock, q, seen, c0, r1, r2, rq, r3, r4, r5, r6, r7, r8, fun p hp => by cases hp⟩
theorem MRun.len (h : MRun R Ds n0 w0 wr L lm m live n H ds cur vis a Hr w) : vis.length ≤ m.E.length := by
  obtain ⟨b, s, es, clock, q, seen, c0, r1, r2, rq, r3, r4, r5, r6, r7, r8, r9⟩ := h.run
  exact nodup_len r6.nodup r6.sub
theorem ent_at {es : Array MapEntry} {clock : Nat} (h : MapOK m es clock) {i : Nat} {x : MapEntry} (hx : es.toList[i]? = some x) : ∃ p, m.E[i]? = some p ∧ x.key = keyV m.kb m.ks p.1 ∧ x.val = valV m.g p.2 := by
  have := congrArg (fun l : List (Value × Value) => l[i]?) h.ent
  simp only [List.getElem?_map, hx, Option.map_some] at this
  rcases hp : m.E[i]? with _ | p
  · rw [hp] at this; cases this
  · rw [hp] at this
    simp only [Option.map_some, Option.some.injEq, Prod.mk.injEq] at this
    exact ⟨p, rfl, this.1, this.2⟩
theorem at_ent {es : Array MapEntry} {clock : Nat} (h : MapOK m es clock) {i : Nat} {p : Ent} (hp : m.E[i]? = some p) : ∃ x, es.toList[i]? = some x := by
  have hlen : es.toList.length = m.E.length := by have := congrArg List.length h.ent; simpa using this
  exact ⟨_, List.getElem?_eq_getElem (by rw [hlen]; exact (List.getElem?_eq_some_iff.1 hp).1)⟩
theorem born_inj {es : Array MapEntry} {clock : Nat} (h : MapOK m es clock) {i j : Nat} {x y : MapEntry} (hx : es.toList[i]? = some x) (hy : es.toList[j]? = some y) (hb : x.born = y.born) : i = j := by
  rcases Nat.lt_trichotomy i j with hij | hij | hij
  · have := List.pairwise_iff_getElem.1 h.born i j (List.getElem?_eq_some_iff.1 hx).1 (List.getElem?_eq_some_iff.1 hy).1 hij
    rw [(List.getElem?_eq_some_iff.1 hx).2, (List.getElem?_eq_some_iff.1 hy).2] at this
    omega
  · exact hij
  · have := List.pairwise_iff_getElem.1 h.born j i (List.getElem?_eq_some_iff.1 hy).1 (List.getElem?_eq_some_iff.1 hx).1 hij
    rw [(List.getElem?_eq_some_iff.1 hx).2, (List.getElem?_eq_some_iff.1 hy).2] at this
    omega
theorem ent_inj {es : Array MapEntry} {clock : Nat} (h : MapOK m es clock) {i j : Nat} {p q : Ent} (hp : m.E[i]? = some p) (hq : m.E[j]? = some q) (he : p = q) : i = j := by
  rcases Nat.lt_trichotomy i j with hij | hij | hij
  · have := List.pairwise_iff_getElem.1 h.nodup i j (List.getElem?_eq_some_iff.1 hp).1 (List.getElem?_eq_some_iff.1 hq).1 hij
    rw [(List.getElem?_eq_some_iff.1 hp).2, (List.getElem?_eq_some_iff.1 hq).2] at this
    exact absurd (congrArg Prod.fst he) this
  · exact hij
  · have := List.pairwise_iff_getElem.1 h.nodup j i (List.getElem?_eq_some_iff.1 hq).1 (List.getElem?_eq_some_iff.1 hp).1 hij
    rw [(List.getElem?_eq_some_iff.1 hp).2, (List.getElem?_eq_some_iff.1 hq).2] at this
    exact absurd (congrArg Prod.fst he).symm this
theorem seen_push {es : Array MapEntry} {clock : Nat} {seen : Array Nat} (h : MapOK m es clock) (hs : SeenOK es m.E seen vis) {i : Nat} {x : MapEntry} {p : Ent} (hx : es.toList[i]? = some x) (hp : m.E[i]? = some p) (hn : p ∉ vis) : SeenOK es m.E (seen.push x.born) (vis ++ [p]) := by
  refine ⟨?_, fun q hq => ?_, fun j y q hy hq => ?_⟩
  · rw [List.nodup_append]
    exact ⟨hs.nodup, List.nodup_cons.2 ⟨by simp, List.nodup_nil⟩, fun u hu v hv e => by rw [List.mem_singleton.1 hv] at e; rw [e] at hu; exact hn hu⟩
  · rcases List.mem_append.1 hq with hq | hq
    · exact hs.sub q hq
    · rw [List.mem_singleton.1 hq]; exact List.mem_of_getElem? hp
  · have h1 := hs.at_ j y q hy hq
    rw [Array.contains_iff_mem] at h1 ⊢
    rw [Array.mem_push, List.mem_append, List.mem_singleton, h1]
    constructor
    · rintro (h2 | h2)
      · exact .inl h2
      · have := born_inj h hy hx h2
        subst this
        rw [hp] at hq; exact .inr (Option.some.inj hq).symm
    · rintro (h2 | h2)
      · exact .inl h2
      · have := ent_inj h hq hp h2
        subst this
        rw [hx] at hy; exact .inr (congrArg MapEntry.born (Option.some.inj hy)).symm
theorem atR_op {P : Program} {o : Oper} {a : Act} {w w' : World} {V : Value} {ops : Array Oper} {rest : List Oper} {Q : Exit → Act → World → Prop} (hg : o.guard = none) (hr : (execOp a.eval o).run P w = .ok (.value V) w') (hk : wpList P ops Q rest (a.put o.dst V) w') : wpList P ops Q (o :: rest) a w := by
  apply wpList_step
  intro Kn hKn
  rw [if_pos (by simp [Region.wanted, hg])]
  unfold Oper.wp
  rw [hr]
  exact hKn _ _ hk
def rngOf : List Oper → Option (Tmp × TypeId × Operand)
  | ⟨some d, .range t x, _, _, _, none⟩ :: _ => some (d, t, x)
  | _ => none
def nxtOf : List Oper → Option (Tmp × Operand)
  | ⟨some d, .next x false, _, _, _, none⟩ :: _ => some (d, x)
  | _ => none
def entOf : List Oper → Option (Tmp × Operand)
  | ⟨some d, .entry x, _, _, _, none⟩ :: _ => some (d, x)
  | _ => none
/-- It begins. -/
theorem m_range {P : Program} {ops : Array Oper} {lo : List Oper} {d : Tmp} {t k e : TypeId} {x : Operand} {Q : Exit → Act → World → Prop} (hlo : rngOf lo = some (d, t, x)) (hu : P.underlying t = some (.map k e)) (hx : ∀ r, evO (Go.Proofs.Ytcfomhnfhalmaaa.pat live r 0 n) x = some (.mp lm)) (hm : H[lm]? = some (.map m))
    (hkeys : live.all (fun p => Nat.blt p.1 n) = true) (hd : d < n) (hP : PatSt R (Ds.map markD) live n ⟨H, ds, wr⟩ a Hr) (hB : Bun R Ds n0 w0 H Hr w) (hwl : wr H.length = false) (hwr : ∀ l, l < H.length → wr l = true → l ≠ lm ∧ ∃ it, H[l]? = some it ∧ it.live = true)
    (hk : ∀ a' Hr' w', MRun R Ds n0 w0 wr H.length lm m ((d, .ptr H.length 0) :: live) n (H ++ [.gone]) ds none [] a' Hr' w' → Stp wr Hr w Hr' w' → wpList P ops Q lo.tail a' w') : wpList P ops Q lo a w := by
  unfold rngOf at hlo
  split at hlo
  case h_2 => cases hlo
  cases hlo
  have hP' := hP
  obtain ⟨r, vs, rfl, ht, hBl, hA⟩ := hP'
  have h1 := evO_sound (D := Ds.map markD) ht _ _ (hx r)
  obtain ⟨q, hq, hev⟩ := rel_mp h1
  obtain ⟨b, s, es, clock, e1, e2⟩ := hBl.getM hm
  rw [nums_get e1] at hq; cases hq
  have hmp := hBl.mph hm e1
  have hb := (hB.own.1 lm _ _ hm e1 hmp).2 rfl
  have hlt : b < w.heap.size := (hB.own.1 lm _ _ hm e1 hmp).1
  have hrun := run_range_map (P := P) w t k e b es clock hu hb
  have hbel := World.below_alloc w (.mapIter (some b) clock #[] clock)
  have hns := nums_snoc Hr ⟨w.heap.size, 0, .mapIter (some b) clock #[] clock⟩
  have hD := drop_one hns
  have hS : Stp wr Hr w (Hr ++ [⟨w.heap.size, 0, .mapIter (some b) clock #[] clock⟩]) (w.alloc (.mapIter (some b) clock #[] clock)) := ⟨hbel.os, hbel.tape, hbel.output, hbel.size, ⟨_, hD.1, fun q hq _ => by rw [hD.2] at hq; rw [List.mem_singleton.1 hq]; exact .inl (Nat.le_refl _)⟩, fun k hk _ => hbel.block k hk⟩
  have hO' : OwnK R (H ++ [.gone]) (Hr ++ [⟨w.heap.size, 0, .mapIter (some b) clock #[] clock⟩]) (w.alloc (.mapIter (some b) clock #[] clock)) := ⟨own_new hB.own.1 hBl.len hbel (fun _ => heap_alloc_new w _), hS.rd hB.own.2⟩
  have hB' := hB.stp hO' hS
  have hP2 : PatSt R (Ds.map markD) live n ⟨H ++ [.gone], ds, wr⟩ ⟨vs.toArray, Ds.map markD⟩ (Hr ++ [⟨w.heap.size, 0, .mapIter (some b) clock #[] clock⟩]) :=
    ⟨r, vs, rfl, by rw [hns]; exact ht.grow _, by rw [hns]; exact (hBl.grow _).snoc .gone, apart_new hA hB.own.1 hBl.len (fun _ => Nat.le_refl _)⟩
  have hlH : H.length = Hr.length := hBl.len.symm
  have hlm : lm < H.length := (List.getElem?_eq_some_iff.1 hm).1
  have hnl : (nums Hr).length = H.length := by simp [nums, hlH]
  have hqL : (nums (Hr ++ [⟨w.heap.size, 0, .mapIter (some b) clock #[] clock⟩]))[H.length]? = some ⟨w.heap.size, 0, 0⟩ := by
    rw [hns, List.getElem?_append_right (by omega), hnl, Nat.sub_self]; rfl
  have hP3 := patSt_put hP2 hkeys hd (v := .ptr H.length 0) (V := .pointer (some ⟨w.heap.size, 0, none⟩)) (.ptr (q := ⟨w.heap.size, 0, 0⟩) hqL)
  refine atR_op rfl (V := .pointer (some ⟨w.heap.size, 0, none⟩)) (w' := w.alloc (.mapIter (some b) clock #[] clock)) ?_ (hk _ _ _ ⟨hP3, hB', by rw [List.getElem?_append_left hlm]; exact hm, by simp, hwl, b, s, es, clock, ⟨w.heap.size, 0, 0⟩, #[], clock, getElem?_append_some e1, hqL, rfl, e2, heap_alloc_new w _, Nat.le_refl _, ⟨List.nodup_nil, by simp, fun i x p _ _ => by simp⟩, fun l q' hl hqp hqb => ?_, fun l q' hl hqp hqb => ?_, fun p hp => by cases hp⟩ hS)
  · simp only [execOp, hev, RBlk.num, Sem.run_bind, hrun, Result.andThen_ok, Sem.run_pure]
  · rw [hns] at hl
    rcases Nat.lt_or_ge l (nums Hr).length with hlt' | hge
    · rw [List.getElem?_append_left hlt'] at hl
      obtain ⟨p, hp, rfl⟩ := nums_at hl
      have := own_lt hB.own.1 hBl.len hp hqp
      simp only [RBlk.num] at hqb
      omega
    · rw [List.getElem?_append_right hge] at hl
      have : l - (nums Hr).length = 0 := by
        rcases Nat.eq_zero_or_pos (l - (nums Hr).length) with h | h
        · exact h
        · rw [List.getElem?_eq_none (by simp; omega)] at hl; cases hl
      omega
  · rw [hns] at hl
    rcases Nat.lt_or_ge l (nums Hr).length with hlt' | hge
    · rw [List.getElem?_append_left hlt'] at hl
      cases hw : wr l
      · rfl
      · obtain ⟨h2, it, h3, h4⟩ := hwr l (by omega) hw
        obtain ⟨p, hp, rfl⟩ := nums_at hl
        have ho := hA l lm it (.map m) p ⟨b, s, .map es clock⟩ h2 h3 hm h4 rfl hp e1 hqp hmp hqb
        have hpo := (hB.own.1 l it p h3 hp hqp).2 h4
        have hpb : p.b = b := hqb
        have hb0 : w.heap[b]? = some (.map es clock) := hb
        rw [hpb, hb0] at hpo
        have hrl := hBl.2 l it p h3 hp
        have hpo := Option.some.inj hpo
        cases hrl with
        | cells _ _ => cases hpo
        | row _ _ _ _ _ => cases hpo
        | row0 h0 => rw [h0] at hqp; cases hqp
        | map _ _ => exact absurd ho h2
        | gone => cases h4
    · rw [List.getElem?_append_right hge] at hl
      have : l - (nums Hr).length = 0 := by
        rcases Nat.eq_zero_or_pos (l - (nums Hr).length) with h | h
        · exact h
        · rw [List.getElem?_eq_none (by simp; omega)] at hl; cases hl
      rw [this] at hl
      cases hl
      simp only [RBlk.num] at hqb
      omega
/-- What goes over it has turned. -/
theorem bun_turn (hB : Bun R Ds n0 w0 H Hr w) (hBl : Hr.length = H.length) (hRl : RelB R (nums Hr) H Hr) {q : Num} (hq : (nums Hr)[L]? = some q) (hqp : q.ph = false) (hg : H[L]? = some .gone) (hun : ∀ (l : Nat) q', (nums Hr)[l]? = some q' → q'.ph = false → q'.b = q.b → l = L) {w1 : World} (hg1 : w.grownBy w1 (some q.b)) : Bun R Ds n0 w0 H Hr w1 := by
  have hS : Stp (fun l => Nat.beq l L) Hr w Hr w1 := ⟨hg1.os, hg1.tape, hg1.output, hg1.size, ⟨[], by simp, by simp⟩, fun k hk hl => hg1.block k hk fun e => by
    have := hl L q hq hqp (Option.some.inj e).symm
    simp at this⟩
  refine hB.stp ⟨fun l it p h1 h2 hpp => ?_, hS.rd hB.own.2⟩ hS
  obtain ⟨x1, x2⟩ := hB.own.1 l it p h1 h2 hpp
  refine ⟨Nat.lt_of_lt_of_le x1 hg1.size, fun hv => ?_⟩
  rw [hg1.block p.b x1 fun e => by
    have := hun l p.num (nums_get h2) hpp (Option.some.inj e)
    subst this
    rw [hg] at h1; cases h1; cases hv]
  exact x2 hv
/-- The next one. -/
theorem m_next {P : Program} {ops : Array Oper} {lo : List Oper} {d : Tmp} {x : Operand} {Q : Exit → Act → World → Prop} (hlo : nxtOf lo = some (d, x)) (hx : ∀ r, evO (Go.Proofs.Ytcfomhnfhalmaaa.pat live r 0 n) x = some (.ptr L 0)) (hkeys : live.all (fun p => Nat.blt p.1 n) = true) (hd : d < n)
    (h : MRun R Ds n0 w0 wr L lm m live n H ds cur vis a Hr w)
    (hdone : (∀ p ∈ m.E, p ∈ vis) → ∀ a', MRun R Ds n0 w0 wr L lm m ((d, .tuple [.bool true false]) :: live) n H ds none vis a' Hr w → wpList P ops Q lo.tail a' w)
    (hmore : ∀ p ∈ m.E, p ∉ vis → p.1.length = m.ks.length → wfL m.cs p.2 = true → ∀ a' w', MRun R Ds n0 w0 wr L lm m ((d, .tuple [.bool true true, .agg (keyA m.ks p.1), decM m.g m.cs p.2]) :: live) n H ds (some p) (vis ++ [p]) a' Hr w' → Stp (fun l => Nat.beq l L) Hr w Hr w' → wpList P ops Q lo.tail a' w') (hkb : m.kb = false := by rfl) : wpList P ops Q lo a w := by
  unfold nxtOf at hlo
  split at hlo
  case h_2 => cases hlo
  rename_i ty _ _ _
  cases hlo
  obtain ⟨b, s, es, clock, q, seen, c0, r1, r2, rq, r3, r4, r5, r6, r7, r8, r9⟩ := h.run
  have hP := h.pat
  obtain ⟨r, vs, rfl, ht, hBl, hA⟩ := h.pat
  have h1 := evO_sound (D := Ds.map markD) ht _ _ (hx r)
  obtain ⟨q', hq', hev⟩ := rel_ptr h1
  rw [r2] at hq'; cases hq'
  have hb : w.heap[b]? = some (.map es clock) := (h.bun.own.1 lm _ _ h.hm r1 (hBl.mph h.hm r1)).2 rfl
  rcases run_next_at (P := P) w ty q.b b clock c0 seen es clock r4 hb r3.clock r5 with ⟨hz, hrun⟩ | ⟨x, hxl, w1, hw1, hrun⟩
  · refine atR_op rfl (V := .tuple #[.bool false]) (w' := w) (by simp only [execOp, hev, Sem.run_bind, hrun, Result.andThen_ok, Sem.run_pure]) (hdone (fun p hp => ?_) _ ⟨patSt_put hP hkeys hd (.tuple (vs := [_]) (.cons .bool .nil)), h.bun, h.hm, h.hg, h.wl, b, s, es, clock, q, seen, c0, r1, r2, rq, r3, r4, r5, r6, r7, r8, fun p hp => by cases hp⟩)
    obtain ⟨i, hi⟩ := List.getElem?_of_mem hp
    obtain ⟨y, hy⟩ := at_ent r3 hi
    exact (r6.at_ i y p hy hi).1 (all_seen es seen hz y (List.mem_of_getElem? hy))
  · obtain ⟨hem, hes⟩ := mem_left hxl
    obtain ⟨i, hi⟩ := List.getElem?_of_mem hem
    obtain ⟨p, hp, hk, hv⟩ := ent_at r3 hi
    have hpm := List.mem_of_getElem? hp
    have hnv : p ∉ vis := fun hv => by rw [(r6.at_ i x p hi hp).2 hv] at hes; cases hes
    have hkl := (r3.keys p hpm).1
    rw [hkb] at hk
    have hwf := r3.vals p hpm
    have hr1 : w1.heap = w.heap := by rcases hw1 with rfl | rfl <;> rfl
    have hqlt : q.b < w.heap.size := (Array.getElem?_eq_some_iff.1 r4).1
    have hgr : w.grownBy (setBlock w1 q.b (.mapIter (some b) clock (seen.push x.born) clock)) (some q.b) := by
      rcases hw1 with rfl | rfl <;> exact ⟨rfl, rfl, rfl, by simp [setBlock], fun k _ hk => by
        simp only [setBlock]
        rw [Array.getElem?_setIfInBounds_ne (fun e => hk (by rw [e]))]
        try rfl⟩
    have hset : (setBlock w1 q.b (.mapIter (some b) clock (seen.push x.born) clock)).heap[q.b]? = some (.mapIter (some b) clock (seen.push x.born) clock) := by
      simp only [setBlock, hr1]
      rw [Array.getElem?_setIfInBounds_self_of_lt hqlt]
    have hBt := bun_turn h.bun hBl.len hBl r2 rq h.hg r7 hgr
    refine atR_op rfl (V := .tuple #[.bool true, x.key, x.val]) (w' := setBlock w1 q.b (.mapIter (some b) clock (seen.push x.born) clock)) (by simp only [execOp, hev, Sem.run_bind, hrun, Result.andThen_ok, Sem.run_pure]) (hmore p hpm hnv hkl hwf _ _ ⟨patSt_put hP hkeys hd (.tuple (vs := [_, _, _]) (.cons .bool (.cons ?_ (.cons ?_ .nil)))), hBt, h.hm, h.hg, h.wl, b, s, es, clock, q, seen.push x.born, clock, r1, r2, rq, r3, hset, Nat.le_refl _, seen_push r3 r6 hi hp hnv, r7, r8, fun p' hp' => ⟨rfl, i, seen, x, rfl, hi, by rw [← Option.some.inj hp']; exact hp⟩⟩ ⟨hgr.os, hgr.tape, hgr.output, hgr.size, ⟨[], by simp, by simp⟩, fun k hk hl => hgr.block k hk fun e => ?_⟩)
    · rw [hk]; exact .agg (keyA_rel hkl)
    · rw [hv]; exact dec_rel hwf r3.one
    · have := hl L q r2 rq (Option.some.inj e).symm
      simp at this
/-- Its key and its value, read again. -/
theorem m_entry {P : Program} {ops : Array Oper} {lo : List Oper} {d : Tmp} {x : Operand} {p : Ent} {Q : Exit → Act → World → Prop} (hlo : entOf lo = some (d, x)) (hx : ∀ r, evO (Go.Proofs.Ytcfomhnfhalmaaa.pat live r 0 n) x = some (.ptr L 0)) (hkeys : live.all (fun p => Nat.blt p.1 n) = true) (hd : d < n)
    (h : MRun R Ds n0 w0 wr L lm m live n H ds (some p) vis a Hr w)
    (hk : ∀ a', MRun R Ds n0 w0 wr L lm m ((d, .tuple [.agg (keyA m.ks p.1), decM m.g m.cs p.2]) :: live) n H ds (some p) vis a' Hr w → wpList P ops Q lo.tail a' w) (hkb : m.kb = false := by rfl) : wpList P ops Q lo a w := by
  unfold entOf at hlo
  split at hlo
  case h_2 => cases hlo
  cases hlo
  obtain ⟨b, s, es, clock, q, seen, c0, r1, r2, rq, r3, r4, r5, r6, r7, r8, r9⟩ := h.run
  have hP := h.pat
  obtain ⟨r, vs, rfl, ht, hBl, hA⟩ := h.pat
  have h1 := evO_sound (D := Ds.map markD) ht _ _ (hx r)
  obtain ⟨q', hq', hev⟩ := rel_ptr h1
  rw [r2] at hq'; cases hq'
  have hb : w.heap[b]? = some (.map es clock) := (h.bun.own.1 lm _ _ h.hm r1 (hBl.mph h.hm r1)).2 rfl
  obtain ⟨hc, i, seen', y, hs, hy, hp⟩ := r9 p rfl
  subst hc; subst hs
  obtain ⟨p2, hp2, hky, hvl⟩ := ent_at r3 hy
  rw [hp] at hp2; cases hp2
  have hpm := List.mem_of_getElem? hp
  have hnd : (es.toList.map (·.born)).Nodup := List.pairwise_map.2 (r3.born.imp fun h => by omega)
  have hrun := run_entry_at (P := P) w q.b b _ seen' es _ y r4 hb (List.mem_of_getElem? hy) hnd
  refine atR_op rfl (V := .tuple #[y.key, y.val]) (w' := w) (by simp only [execOp, hev, Sem.run_bind, hrun, Result.andThen_ok, Sem.run_pure]) (hk _ ⟨patSt_put hP hkeys hd (.tuple (vs := [_, _]) (.cons ?_ (.cons ?_ .nil))), h.bun, h.hm, h.hg, h.wl, b, s, es, _, q, _, _, r1, r2, rq, r3, r4, r5, r6, r7, r8, r9⟩)
  · rw [hky, hkb]; exact .agg (keyA_rel (r3.keys p hpm).1)
  · rw [hvl]; exact dec_rel (r3.vals p hpm) r3.one
/-- The loop: at most as many rounds as it has entries. -/
theorem m_loop {P : Program} {c : Code} (hc : isLp c = true) (live : List Ent → List (Nat × AV)) (H : List Ent → Mem) {Q : Exit → Act → World → Prop} (S : List Ent → List RBlk → World → Prop)
    (hround : ∀ vis a Hr w (Q' : Exit → Act → World → Prop), MRun R Ds n0 w0 wr L lm m (live vis) n (H vis) ds none vis a Hr w → S vis Hr w → (∀ p a' Hr' w', p ∉ vis → p ∈ m.E → MRun R Ds n0 w0 wr L lm m (live (vis ++ [p])) n (H (vis ++ [p])) ds none (vis ++ [p]) a' Hr' w' → S (vis ++ [p]) Hr' w' → Q' .normal a' w') → (∀ e a' w', e ≠ .normal → Q e a' w' → Q' e a' w') → (lpB c).wp P Q' a w)
    (h : MRun R Ds n0 w0 wr L lm m (live []) n (H []) ds none [] a Hr w) (hS : S [] Hr w) : c.wp P Q a w := by
  refine wp_lp (m.E.length + 1) hc ?_
  have key : ∀ j vis, vis.length + j = m.E.length → ∀ a Hr w, MRun R Ds n0 w0 wr L lm m (live vis) n (H vis) ds none vis a Hr w → S vis Hr w → Code.rounds P (lpB c) Q (j + 1) a w := by
    intro j
    induction j with
    | zero =>
      intro vis hv a Hr w h hS
      rw [rounds_succ]
      refine hround vis a Hr w _ h hS (fun p a' Hr' w' _ _ h' _ => ?_) (fun e a' w' he hq => ?_)
      · have := h'.len
        simp at this; omega
      · cases e <;> first | exact hq | exact absurd rfl he
    | succ j ih =>
      intro vis hv a Hr w h hS
      rw [rounds_succ]
      refine hround vis a Hr w _ h hS (fun p a' Hr' w' _ _ h' hS' => ?_) (fun e a' w' he hq => ?_)
      · exact ih (vis ++ [p]) (by simp; omega) a' Hr' w' h' hS'
      · cases e <;> first | exact hq | exact absurd rfl he
  exact key m.E.length [] (by simp) a Hr w h hS
end
/-! ### Functions that begin with memory of ours. -/
/-- Some of the labels, by other numbers. -/
theorem sub_mem {R : Rws} {sel : List Nat} {H H' : Mem} {Hr : List RBlk} {w : World} (hnd : nodupN sel = true) (hH : sel.map (fun l => (H[l]?).bind (renI sel)) = H'.map some) (hBl : RelB R (nums Hr) H Hr) (hA : Apart H Hr) (hO : OwnK R H Hr w) :
    RelB R (nums (pick sel Hr)) H' (pick sel Hr) ∧ Apart H' (pick sel Hr) ∧ OwnK R H' (pick sel Hr) w ∧ (∀ i l : Nat, sel[i]? = some l → (nums (pick sel Hr))[i]? = (nums Hr)[l]?) := by
  have hbl := hBl.len
  have hlen : H'.length = sel.length := by have := congrArg List.length hH; simpa using this.symm
  have hat : ∀ i l : Nat, sel[i]? = some l → ∃ p q : AIt, H[l]? = some p ∧ renI sel p = some q ∧ H'[i]? = some q := by
    intro i l hi
    have h2 := congrArg (fun z : List (Option AIt) => z[i]?) hH
    simp only [List.getElem?_map, hi, Option.map_some] at h2
    have hi' : i < H'.length := by rw [hlen]; exact (List.getElem?_eq_some_iff.1 hi).1
    rw [List.getElem?_eq_getElem hi', Option.map_some, Option.some.injEq] at h2
    rw [Option.bind_eq_some_iff] at h2
    obtain ⟨p, h3, h4⟩ := h2
    exact ⟨p, _, h3, h4, List.getElem?_eq_getElem hi'⟩
  have hv : ∀ l ∈ sel, l < Hr.length := fun l hl => by
    obtain ⟨i, hi, hi'⟩ := List.mem_iff_getElem.1 hl
    obtain ⟨p, q, h3, _, _⟩ := hat i l (by rw [List.getElem?_eq_getElem hi, hi'])
    rw [hbl]; exact (List.getElem?_eq_some_iff.1 h3).1
  have hρ := nums_pick (Hr := Hr) hv
  have hpk := pick_get (Hr := Hr) hv
  have hto : ∀ (i : Nat) jt q, H'[i]? = some jt → (pick sel Hr)[i]? = some q → ∃ l it, sel[i]? = some l ∧ H[l]? = some it ∧ renI sel it = some jt ∧ Hr[l]? = some q := fun i jt q h1 h2 => by
    have hi2 : i < sel.length := by rw [← hlen]; exact (List.getElem?_eq_some_iff.1 h1).1
    obtain ⟨p, q', h3, h4, h5⟩ := hat i sel[i] (List.getElem?_eq_getElem hi2)
    rw [h1] at h5; cases h5
    exact ⟨sel[i], p, List.getElem?_eq_getElem hi2, h3, h4, (hpk i _ (List.getElem?_eq_getElem hi2)).symm.trans h2⟩
  refine ⟨⟨by rw [pick_len hv, hlen], fun i jt q h1 h2 => ?_⟩, ?_, ⟨fun i jt q h1 h2 hq => ?_, hO.2.sub fun b hb => ?_⟩, hρ⟩
  · obtain ⟨l, it, e1, e2, e3, e4⟩ := hto i jt q h1 h2
    exact RelI.ren hρ e3 (hBl.2 l it q e2 e4)
  · have hsn := nodupN_spec hnd
    intro i j it1 jt1 p1 p2 hne h1 h2 l1 l2 q1 q2 z1 z2 hb
    obtain ⟨l, it, e1, e2, e3, e4⟩ := hto i it1 p1 h1 q1
    obtain ⟨m, jt, f1, f2, f3, f4⟩ := hto j jt1 p2 h2 q2
    have hlm : l ≠ m := fun e => by
      subst e
      have hi := (List.getElem?_eq_some_iff.1 e1).1
      exact hne ((List.getElem?_inj hi hsn).1 (e1.trans f1.symm))
    have ho := hA l m it jt p1 p2 hlm e2 f2 (by rw [← renI_live e3]; exact l1) (by rw [← renI_live f3]; exact l2) e4 f4 z1 z2 hb
    have g1 := renI_owner e3 e1
    have g2 := renI_owner f3 f1
    rw [ho] at g1
    exact (List.getElem?_inj (List.getElem?_eq_some_iff.1 g1).1 hsn).1 (g1.trans g2.symm)
  · obtain ⟨l, it, e1, e2, e3, e4⟩ := hto i jt q h1 h2
    obtain ⟨g1, g2⟩ := hO.1 l it q e2 e4 hq
    exact ⟨g1, fun hlv => g2 (by rw [← renI_live e3]; exact hlv)⟩
  · rw [mem_bs] at hb ⊢
    obtain ⟨q, hq, e⟩ := hb
    exact ⟨q, nums_pick_mem hq, e⟩
theorem ev_enterH {E : Env} {f : FuncId} {fn : Func} {c : Code} (hf : E.P.funcs[f]? = some fn) (hb : fn.body = some c) {args : List AV} {Args : List Value} {H : Mem} {Hr : List RBlk} (hn : args.length ≤ fn.ntmps) {w : World} (ha : RelL E.rows (nums Hr) args Args) (hB : RelB E.rows (nums Hr) H Hr) (hA : Apart H Hr) (hO : OwnK E.rows H Hr w) {ds : List Bool} {wr : Nat → Bool} {Q : Ending → World → Prop}
    (h : ∀ a, PatSt E.rows ([].map markD) (inLive 0 args) fn.ntmps ⟨H, ds, wr⟩ a Hr → Bun E.rows [] 0 w H Hr w → c.wp E.P (bodyPostM Fence.wide 0 E.P fn Q) a w) : Calls E.P f Args.toArray w Q := by
  refine calls_marks hf hb (h _ ?_ ⟨hO, by simp, by simp, fun q _ _ => Nat.zero_le _, ⟨rfl, rfl, rfl, Nat.le_refl _, fun k hk => absurd hk (Nat.not_lt_zero _)⟩, Nat.zero_le _⟩)
  have hl := ha.len
  have hR : RelSt E.rows [] ⟨args ++ List.replicate (fn.ntmps - args.length) undefA, ⟨H, ds, wr⟩⟩ ⟨Args.toArray ++ Array.replicate (fn.ntmps - Args.toArray.size) undef, []⟩ Hr := by
    refine ⟨Args ++ List.replicate (fn.ntmps - args.length) undef, ?_, ha.append (RelL.rep .raw _), hB, hA⟩
    congr 1
    apply Array.toList_inj.1
    simp [hl]
  exact patSt_of (live := []) hR (by simp; omega) (fun i v hv => by
    obtain ⟨_, h2⟩ := look_in hv
    simp only [Nat.sub_zero] at h2
    rw [List.getElem?_append_left (List.getElem?_eq_some_iff.1 h2).1]; exact h2)
/-- The end of such a function. -/
theorem ev_endH {E : Env} (hE : EnvOK E) {live : List (Nat × AV)} {n n0 : Nat} {H : Mem} {ds : List Bool} {wr : Nat → Bool} {r : AV} {fn : Func} (h : ∀ rs, resA E.P E.rows H (pat live rs 0 n) fn.results.toList = some [r]) {a : Act} {Hr : List RBlk} {w w0 : World} (hP : PatSt E.rows ([].map markD) live n ⟨H, ds, wr⟩ a Hr) (hB : Bun E.rows [] n0 w0 H Hr w) {Q : Ending → World → Prop}
    (hk : ∀ V, Rel E.rows (nums Hr) r V → Q (.returned V) w) {e : Exit} (he : e = .ret ∨ e = .normal) : bodyPostM Fence.wide 0 E.P fn Q e a w := by
  obtain ⟨rs, hR⟩ := hP
  obtain ⟨V, hv, hres⟩ := results_sound hE.rows hR (h rs)
  have hd : a.defers = [] := by obtain ⟨tv, rfl, _⟩ := hR; rfl
  have := leave_marks (P := E.P) (fn := fn) (tmps := a.tmps) (Q := Q) [] w (by simp) (by simp) ⟨V, hres _ hB.own, hk V hv⟩
  rw [List.map_nil, ← hd] at this
  rcases he with rfl | rfl <;> exact this
/-- Nothing that was there has changed. -/
def Fr0 (W : World) (B : Nat → Bool) (Hr : List RBlk) (w : World) : Prop := Below W.heap.size W w ∧ ∀ (l : Nat) q, (nums Hr)[l]? = some q → q.ph = false → B l = true → W.heap.size ≤ q.b
theorem Fr0.step {W : World} {B wr : Nat → Bool} {Hr Hr' : List RBlk} {w w' : World} (h : Fr0 W B Hr w) (hS : Stp wr Hr w Hr' w') (hw : ∀ l, wr l = true → B l = true) : Fr0 W B Hr' w' := by
  obtain ⟨hb, hn⟩ := h
  obtain ⟨σ, e1, n1⟩ := hS.ext
  refine ⟨⟨hS.os.trans hb.os, hS.tape.trans hb.tape, hS.output.trans hb.output, Nat.le_trans hb.size hS.size, fun k hk => (hS.block k (Nat.lt_of_lt_of_le hk hb.size) fun l q hl hqp hq => ?_).trans (hb.block k hk)⟩, fun l q hl hqp hB => ?_⟩
  · cases hwl : wr l
    · rfl
    · have := hn l q hl hqp (hw l hwl); omega
  · rw [e1] at hl
    rcases Nat.lt_or_ge l (nums Hr).length with hlt | hge
    · rw [List.getElem?_append_left hlt] at hl; exact hn l q hl hqp hB
    · rw [List.getElem?_append_right hge] at hl
      rcases n1 q (List.mem_of_getElem? hl) hqp with h4 | ⟨l2, p, x1, x0, x2, x3⟩
      · exact Nat.le_trans hb.size h4
      · rw [← x2]; exact hn l2 p x1 x0 (hw l2 x3)
theorem Fr0.trim {W : World} {B : Nat → Bool} {Hr : List RBlk} {w : World} (h : Fr0 W B Hr w) (n : Nat) : Fr0 W B (Hr.take n) w := ⟨h.1, fun l q hl hqp hB => by
  simp only [nums, List.map_take] at hl
  rw [List.getElem?_take] at hl
  split at hl
  · exact h.2 l q hl hqp hB
  · cases hl⟩
end

section
theorem nil_row {R : Rws} {D : List Deferred} {Ds : List Nat} {n0 : Nat} {w0 w : World} {live : List (Nat × AV)} {n l s : Nat} {H : Mem} {F : Nat → List AV} {t e : TypeId} {ds : List Bool} {wr : Nat → Bool} {a : Act} {Hr : List RBlk} (hs : 0 < s) (hl : H[l]? = some (.cells [.raw (.slice none 0 0)] t))
    (hP : PatSt R D live n ⟨H, ds, wr⟩ a Hr) (hB : Bun R Ds n0 w0 H Hr w) :
    PatSt R D live n ⟨H.set l (.cells [.gsl .top H.length 0 0] t) ++ [.row 0 s F e none], ds, wr⟩ a (Hr ++ [noBlk s]) ∧ Bun R Ds n0 w0 (H.set l (.cells [.gsl .top H.length 0 0] t) ++ [.row 0 s F e none]) (Hr ++ [noBlk s]) w := by
  obtain ⟨r, vs, e', ht, hBl, hA⟩ := hP
  have hno : (noBlk s).num.ph = false → ∀ {p : Prop}, p := fun h => by rw [noBlk_ph hs] at h; cases h
  have hn : nums (Hr ++ [noBlk s]) = nums Hr ++ [(noBlk s).num] := nums_snoc _ _
  have hq : (nums Hr ++ [(noBlk s).num])[H.length]? = some (noBlk s).num := by
    rw [List.getElem?_append_right (by simp [nums, hBl.1])]; simp [nums, hBl.1]
  have hbs : bs (nums (Hr ++ [noBlk s])) = bs (nums Hr) := by rw [hn]; simp [bs, noBlk_ph hs]
  have hO := own_same (it' := .cells [.gsl .top H.length 0 0] t) hB.own.1 hl rfl
  have hA' := apart_same (it' := .cells [.gsl .top H.length 0 0] t) hA hl rfl rfl
  have hlen : Hr.length = (H.set l (.cells [.gsl .top H.length 0 0] t)).length := by simp [hBl.1]
  refine ⟨⟨r, vs, e', ?_, ?_, apart_new hA' hO hlen (p := noBlk s) (fun h => hno h)⟩, ⟨⟨own_new hO hlen (Below.refl _ _) (fun h => hno h), ?_⟩, ?_, hB.nodup, ?_, hB.below, hB.size⟩⟩
  · rw [hn]; exact ht.grow _
  · rw [hn]
    refine (relB_same (hBl.grow _) hl fun p hp => ?_).snoc (.row0 (noBlk_ph hs))
    cases hp with | cells hp hq' =>
    cases hp with | cons h1 h2 =>
    cases h2; cases h1
    exact .cells (.cons (rel_gsl_no hq) .nil) hq'
  · rw [hbs]; exact hB.own.2
  · rw [hbs]; exact hB.marks
  · intro q hq hqp
    rw [hn] at hq
    rcases List.mem_append.1 hq with h | h
    · exact hB.fresh q h hqp
    · rw [List.mem_singleton.1 h, noBlk_ph hs] at hqp; cases hqp
def liveB : Mem → Bool
  | [] => true
  | it :: r => it.live && liveB r
theorem liveB_get : ∀ {H : Mem} {l : Nat} {it : AIt}, liveB H = true → H[l]? = some it → it.live = true
  | [], l, it, _, h => by simp at h
  | jt :: r, 0, it, hb, h => by
    simp at h; subst h
    exact (Bool.and_eq_true _ _ ▸ hb : _ ∧ _).1
  | jt :: r, l + 1, it, hb, h => liveB_get (H := r) (l := l) (Bool.and_eq_true _ _ ▸ hb : _ ∧ _).2 (by simpa using h)
/-- What is written through label o lies at labels of these. -/
def ownB (o : Nat) (fz : List Nat) : Nat → Mem → Bool
  | _, [] => true
  | k, it :: r => (bif Nat.beq (it.owner k) o then memN k fz else true) && ownB o fz (k + 1) r
theorem ownB_get {o : Nat} {fz : List Nat} : ∀ {H : Mem} {i l : Nat} {it : AIt}, ownB o fz i H = true → H[l]? = some it → it.owner (i + l) = o → memN (i + l) fz = true
  | [], i, l, it, _, h, _ => by simp at h
  | jt :: r, i, 0, it, hb, h, ho => by
    simp at h; subst h
    have h1 := (Bool.and_eq_true _ _ ▸ hb : _ ∧ _).1
    have h2 : Nat.beq (jt.owner i) o = true := by rw [show jt.owner i = o from ho]; exact Nat.beq_refl o
    rw [h2] at h1
    exact h1
  | jt :: r, i, l + 1, it, hb, h, ho => by
    have := ownB_get (H := r) (i := i + 1) (l := l) (Bool.and_eq_true _ _ ▸ hb : _ ∧ _).2 (by simpa using h) (by rw [show i + 1 + l = i + (l + 1) by omega]; exact ho)
    rwa [show i + 1 + l = i + (l + 1) by omega] at this
theorem sfz_of {R : Rws} {ρ : Nums} {H : Mem} {Hr : List RBlk} {w : World} (hR : RelB R ρ H Hr) (hA : Apart H Hr) (hO : OwnM H Hr w) (hv : liveB H = true) {fz : List Nat} {l : Nat} {it : AIt} {p : RBlk} (hl : H[l]? = some it) (hp : Hr[l]? = some p) (hph : p.num.ph = false) (ho : ownB (it.owner l) fz 0 H = true) : Sfz fz Hr w p.b := by
  refine ⟨(hO l it p hl hp hph).1, fun k q hq hqp hb => ?_⟩
  obtain ⟨p', h', rfl⟩ := nums_at hq
  have hk : k < H.length := by rw [← hR.1]; exact (List.getElem?_eq_some_iff.1 h').1
  have hj := List.getElem?_eq_getElem hk
  have key : (H[k]).owner k = it.owner l → memN k fz = true := fun e => by
    have := ownB_get (i := 0) ho hj (by rw [Nat.zero_add]; exact e)
    rwa [Nat.zero_add] at this
  by_cases e : k = l
  · subst e
    rw [hl] at hj
    exact key (by rw [← Option.some.inj hj])
  · exact key (hA k l _ _ _ _ e hj hl (liveB_get hv hj) (liveB_get hv hl) h' hp hqp hph hb)
end

section
variable {P : Program}
/-- All of them at once. -/
def eqsK (P : Program) (t : TypeId) : Option (List IntKind) := match aggA P t with
  | some true => kT P 9 t
  | _ => none
theorem eqsK_ok : ∀ t ks, eqsK P t = some ks → EqT P t ks := fun t ks h xs ys hx hy w => by
  unfold eqsK at h
  split at h
  · rename_i ha
    exact eqK_sound 9 t ks h 10000 (by decide) _ _ xs ys hx hy (by unfold IsAt; rw [ha]) (by unfold IsAt; rw [ha]) w
  · cases h
end
end Go.Proofs.Ytcfomhnfhalmaaa
