/- New rows, told by contracts that know who owns them. No program of its own. No condition. -/
import Derived.Test.YtcfomhnfhalmaaaYB
import Derived.Test.YtcfomhnfhalmaaaSl
import Derived.Test.YtcfomhnfhalmaaaEyQ
set_option linter.unusedVariables false
set_option linter.unusedSimpArgs false
set_option maxRecDepth 100000
namespace Go.Proofs.Ytcfomhnfhalmaaa
open Go.RowKit

section
variable {R : Rws} {H : Mem} {Hr : List RBlk} {w w' : World} {s n : Nat} {G : Nat → List AV} {e : TypeId} {wr : Nat → Bool}
theorem fresh_none {A : Option Addr} (hs : 0 < s) (hB : RelB R (nums Hr) H Hr) (hA : Apart H Hr) (hO : OwnK R H Hr w) (hb : Below w.heap.size w w') :
    ∃ Hr', Rel R (nums Hr') (.gsl .top H.length 0 0) (.slice A 0 0) ∧ RelB R (nums Hr') (H ++ [.row 0 s G e none]) Hr' ∧ Apart (H ++ [.row 0 s G e none]) Hr' ∧ OwnK R (H ++ [.row 0 s G e none]) Hr' w' ∧ Stp wr Hr w Hr' w' := by
  have hno : (noBlk s).num.ph = false → ∀ {p : Prop}, p := fun h => by rw [noBlk_ph hs] at h; cases h
  have hn : nums (Hr ++ [noBlk s]) = nums Hr ++ [(noBlk s).num] := by simp [nums]
  have hS : Stp wr Hr w (Hr ++ [noBlk s]) w' := ⟨hb.os, hb.tape, hb.output, hb.size, ⟨_, hn, fun q hq hqp => by
    simp only [List.mem_cons, List.not_mem_nil, or_false] at hq
    rw [hq, noBlk_ph hs] at hqp; cases hqp⟩, fun k hk _ => hb.block k hk⟩
  refine ⟨Hr ++ [noBlk s], ?_, ?_, ?_, ⟨?_, hS.rd hO.2⟩, hS⟩
  · refine .gsl (q := (noBlk s).num) ?_ (Nat.le_refl _) (.inl rfl) (.inl rfl) (Nat.zero_le _)
    rw [hn, List.getElem?_append_right (by simp [nums, hB.1])]
    simp [nums, hB.1]
  · rw [hn]
    exact (hB.grow _).snoc (.row0 (noBlk_ph hs))
  · exact apart_new hA hO.1 hB.1 (fun h => hno h)
  · exact own_new hO.1 hB.1 hb (fun h => hno h)
/-- A slice that owns its row, in a new block: as a row of the memory that is known. -/
theorem fresh_row {V : Value} {xs : List Value} (hs : 0 < s) (hown : w'.ownsRow w.heap.size e s V n xs) (hG : ∀ i, i < n → AV.vals? (G i) = some ((xs.drop (i * s)).take s)) (h1 : ∀ v ∈ xs, v.oneCell' = true) (hB : RelB R (nums Hr) H Hr) (hA : Apart H Hr) (hO : OwnK R H Hr w) (hb : Below w.heap.size w w') :
    ∃ Hr', Rel R (nums Hr') (.gsl .top H.length 0 n) V ∧ RelB R (nums Hr') (H ++ [.row n s G e none]) Hr' ∧ Apart (H ++ [.row n s G e none]) Hr' ∧ OwnK R (H ++ [.row n s G e none]) Hr' w' ∧ Stp wr Hr w Hr' w' := by
  obtain ⟨hlen, h⟩ := hown
  rcases h with ⟨rfl, rfl⟩ | ⟨g, cap, cur, rfl, hg, hh, hnc, hcm, hcs, htake⟩
  · exact fresh_none hs hB hA hO hb
  · rcases Nat.eq_zero_or_pos cap with rfl | hc
    · obtain rfl : n = 0 := by omega
      exact fresh_none hs hB hA hO hb
    · have hz : 0 < cap * s := Nat.mul_pos hc hs
      let p : RBlk := ⟨g, s, .cells cur e (0, 0)⟩
      have hph : p.num.ph = false := by
        show (Nat.blt 0 s && Nat.beq cur.size 0) = false
        rw [hcs]
        cases hbq : Nat.beq (cap * s) 0 with
        | false => simp
        | true => exact absurd (Nat.eq_of_beq_eq_true hbq) (by omega)
      have hn : nums (Hr ++ [p]) = nums Hr ++ [p.num] := by simp [nums]
      have hrow : RowAt n s G cur := fun i hi => by
        refine ⟨_, hG i hi, ?_, fun v hv => h1 v (List.mem_of_mem_drop (List.mem_of_mem_take hv)), fun q u hu => ?_⟩
        · have : (i + 1) * s ≤ n * s := Nat.mul_le_mul_right s hi
          rw [Nat.succ_mul] at this
          simp only [List.length_take, List.length_drop]
          omega
        · rw [List.getElem?_take] at hu
          split at hu
          · rw [List.getElem?_drop, ← htake, List.getElem?_take] at hu
            split at hu
            · simpa using hu
            · cases hu
          · cases hu
      have hS : Stp wr Hr w (Hr ++ [p]) w' := ⟨hb.os, hb.tape, hb.output, hb.size, ⟨_, hn, fun q hq hqp => by
        simp only [List.mem_cons, List.not_mem_nil, or_false] at hq
        rw [hq]; exact .inl hg⟩, fun k hk _ => hb.block k hk⟩
      refine ⟨Hr ++ [p], ?_, ?_, ?_, ⟨?_, hS.rd hO.2⟩, hS⟩
      · refine .gsl (q := p.num) ?_ hnc (.inr ⟨by simp [p, RBlk.num], hph⟩) (.inr ⟨by simp [p, RBlk.num], hph, by simp [p, RBlk.num, cntO, hcs]⟩) hcm
        rw [hn, List.getElem?_append_right (by simp [nums, hB.1])]
        simp [nums, hB.1]
      · rw [hn]
        exact (hB.grow _).snoc (.row hrow hcs hnc hcm hs)
      · exact apart_new hA hO.1 hB.1 (fun _ => hg)
      · exact own_new hO.1 hB.1 hb (fun _ => hh)
end
theorem newsA_addr {R : Rws} {ρ : Nums} {H : Mem} {s m : Nat} {x : AV} {a : Addr} {c : Nat} {G : Nat → List AV} {cs : List Bool} (hRw : RwOK R) (h : newsA R H s x = some (m, G, cs)) (hx : Rel R ρ x (.slice (some a) m c)) (hm : 0 < m) : ∃ b off, a = ⟨b, off, none⟩ := by
  unfold newsA at h
  split at h
  · split at h
    · cases hx with | slice hq =>
      exact ⟨_, _, rfl⟩
    · cases h
  · split at h
    · cases hx with | gsl hq hn ha hk hm' =>
      rcases ha with ha | ⟨ha, _⟩
      · split at h
        · cases h; omega
        · cases h
      · exact ⟨_, _, Option.some.inj ha⟩
    · cases h
  · cases h; omega
  · split at h
    · rename_i j m' c' r hr
      generalize hV : Value.slice (some a) m c = V at hx
      cases hx with | rsl hj hc =>
      rw [hr] at hj; cases hj
      split at h
      · cases h
        obtain ⟨b, off, hA⟩ := hRw.addr _ _ hr hm
        injection hV with h1 h2 h3
        rw [hA] at h1
        exact ⟨b, off, Option.some.inj h1⟩
      · cases h
    · cases h
  · split at h
    · rename_i j off0 m' r hr
      generalize hV : Value.slice (some a) m c = V at hx
      cases hx with | xsl hj hn hc hA =>
      rw [hr] at hj; cases hj
      split at h
      · cases h
        obtain ⟨b, off, hA2⟩ := hRw.addr _ _ hr (by omega)
        injection hV with h1 h2 h3
        rw [hA.resolve_left (by omega), hA2, Option.map_some, Addr.add_lit] at h1
        exact ⟨b, _, Option.some.inj h1⟩
      · cases h
    · cases h
  · cases h
theorem cell_lt {w : World} {b o : Nat} {u : Value} (h : w.cell? ⟨b, o, none⟩ = some u) : b < w.heap.size := by
  rcases Nat.lt_or_ge b w.heap.size with h1 | h1
  · exact h1
  · rw [World.cell?, Array.getElem?_eq_none h1] at h; cases h
theorem flat_get {s : Nat} (hs : 0 < s) (Vf : Nat → List Value) : ∀ m, (∀ i, i < m → (Vf i).length = s) → ∀ j u, ((List.range m).flatMap Vf)[j]? = some u → j / s < m ∧ (Vf (j / s))[j % s]? = some u
  | 0, _, j, u, h => by simp at h
  | m + 1, hl, j, u, h => by
    have hlen : ((List.range m).flatMap Vf).length = m * s := by
      rw [List.length_flatMap]
      have : (List.range m).map (fun i => (Vf i).length) = (List.range m).map (fun _ => s) := List.map_congr_left fun i hi => hl i (by simp at hi; omega)
      rw [this, List.map_const', List.sum_replicate_nat, List.length_range]
    rw [List.range_succ, List.flatMap_append] at h
    rcases Nat.lt_or_ge j (m * s) with hj | hj
    · rw [List.getElem?_append_left (by rw [hlen]; exact hj)] at h
      obtain ⟨h1, h2⟩ := flat_get hs Vf m (fun i hi => hl i (by omega)) j u h
      exact ⟨by omega, h2⟩
    · rw [List.getElem?_append_right (by rw [hlen]; exact hj), hlen] at h
      rw [List.flatMap_singleton] at h
      have hk : j - m * s < s := by
        have := (List.getElem?_eq_some_iff.1 h).1
        rw [hl m (by omega)] at this; exact this
      obtain ⟨k, rfl⟩ : ∃ k, j = m * s + k := ⟨j - m * s, by omega⟩
      rw [show m * s + k - m * s = k by omega] at hk h
      have e1 : (m * s + k) / s = m := by
        rw [Nat.mul_comm m s, Nat.mul_add_div hs, Nat.div_eq_of_lt hk]; omega
      have e2 : (m * s + k) % s = k := by
        rw [Nat.mul_comm m s, Nat.mul_add_mod, Nat.mod_eq_of_lt hk]
      rw [e1, e2]; exact ⟨by omega, h⟩
/-- A slice that is known is a list that lies there. -/
theorem newsA_slAt {R : Rws} {H : Mem} {Hr : List RBlk} {s m : Nat} {y : AV} {Y : Value} {G : Nat → List AV} {cs : List Bool} (hs : 0 < s) (hRw : RwOK R) (hB : RelB R (nums Hr) H Hr) (h : newsA R H s y = some (m, G, cs)) (hcs : ∀ c ∈ cs, c = true) (hy : Rel R (nums Hr) y Y) :
    ∃ A c, Y = .slice A m c ∧ ∀ Vf : Nat → List Value, (∀ i, i < m → AV.vals? (G i) = some (Vf i)) → ∀ w, OwnK R H Hr w → SlAt w A ((List.range m).flatMap Vf) := by
  obtain ⟨A, c, rfl, hA⟩ := newsA_sound hRw hB (fun l p hp => by simp [nums, hp]) h hcs (fun k l off k' n s' F t own e1 e2 => by
    subst e1
    unfold newsA at h
    simp only [e2] at h
    split at h
    · assumption
    · cases h) hy
  refine ⟨A, c, rfl, fun Vf hV w hO => ?_⟩
  rcases Nat.eq_zero_or_pos m with rfl | hm
  · exact .inl rfl
  · obtain ⟨a, rfl, hE⟩ := hA hm
    obtain ⟨b, off, rfl⟩ := newsA_addr hRw h hy hm
    have hl : ∀ i, i < m → (Vf i).length = s := fun i hi => by
      obtain ⟨V, g1, g2, _⟩ := hE i hi
      rw [hV i hi] at g1; cases g1; exact g2
    have hc : ∀ j u, ((List.range m).flatMap Vf)[j]? = some u → w.cell? ⟨b, off + j, none⟩ = some u := fun j u hu => by
      obtain ⟨h1, h2⟩ := flat_get hs Vf m hl j u hu
      obtain ⟨V, g1, _, _, g4⟩ := hE _ h1
      rw [hV _ h1] at g1; cases g1
      have := g4 w hO _ _ h2
      rw [Addr.add_lit] at this
      have e : j / s * s + j % s = j := by rw [Nat.mul_comm]; exact Nat.div_add_mod j s
      rw [e] at this; exact this
    refine .inr ⟨b, off, rfl, ?_, hc⟩
    have h0 : ∃ u, ((List.range m).flatMap Vf)[0]? = some u := by
      have hl0 := hl 0 hm
      obtain ⟨v, hv⟩ : ∃ v, (Vf 0)[0]? = some v := ⟨(Vf 0)[0]'(by omega), List.getElem?_eq_getElem _⟩
      refine ⟨v, ?_⟩
      obtain ⟨k, rfl⟩ : ∃ k, m = k + 1 := ⟨m - 1, by omega⟩
      rw [List.range_succ_eq_map, List.flatMap_cons, List.getElem?_append_left (by omega)]
      exact hv
    obtain ⟨u, hu⟩ := h0
    exact cell_lt (hc 0 u hu)
/-- Contracts of functions that make rows. -/
abbrev CtmF := List AV → Mem → (Nat → Bool) → Option (AV × Mem × List Bool)
def GoodM (P : Program) (R : Rws) (f : FuncId) (F : CtmF) : Prop := Enters P f ∧ ∀ args H wr v H' cs, F args H wr = some (v, H', cs) → (∀ c ∈ cs, c = true) → ∀ Hr w Args, RelL R (nums Hr) args Args → RelB R (nums Hr) H Hr → Apart H Hr → OwnK R H Hr w →
    Calls P f Args.toArray w fun e w' => ∃ V Hr', e = .returned V ∧ Rel R (nums Hr') v V ∧ RelB R (nums Hr') H' Hr' ∧ Apart H' Hr' ∧ OwnK R H' Hr' w' ∧ Stp wr Hr w Hr' w'
def lookCm : List (Nat × CtmF) → Nat → Option CtmF
  | [], _ => none
  | (g, F) :: r, f => bif Nat.beq f g then some F else lookCm r f
theorem lookCm_ok {P : Program} {R : Rws} : ∀ {T : List (Nat × CtmF)}, (∀ p ∈ T, GoodM P R p.1 p.2) → ∀ f F, lookCm T f = some F → GoodM P R f F
  | [], _, f, F, h => by cases h
  | (g, G) :: r, hT, f, F, h => by
    unfold lookCm at h
    cases hb : Nat.beq f g <;> simp only [hb, cond_true, cond_false] at h
    · exact lookCm_ok (fun p hp => hT p (List.mem_cons_of_mem _ hp)) f F h
    · cases h
      rw [Nat.eq_of_beq_eq_true hb]
      exact hT _ (List.mem_cons_self ..)
theorem goodM_nil {P : Program} {R : Rws} : ∀ p ∈ ([] : List (Nat × CtmF)), GoodM P R p.1 p.2 := fun p h => by cases h
theorem goodM_cons {P : Program} {R : Rws} {q : Nat × CtmF} {T : List (Nat × CtmF)} (h : GoodM P R q.1 q.2) (hT : ∀ p ∈ T, GoodM P R p.1 p.2) : ∀ p ∈ q :: T, GoodM P R p.1 p.2 := fun p hp => by
  rcases List.mem_cons.1 hp with rfl | hp
  · exact h
  · exact hT p hp
/-- What is known of the program: contracts of these functions, and of those that make rows. -/
noncomputable def mkEnvM (R : Rws) (T : List (Nat × CtrF)) (M : List (Nat × CtmF)) : Env := ⟨Try.prog, eqsK Try.prog, R, lookF T, lookCm M, fun _ => false, fun _ => false, fun _ => false⟩
theorem mkEnvM_ok {R : Rws} {T : List (Nat × CtrF)} {M : List (Nat × CtmF)} (hR : RwOK R) (hT : ∀ p ∈ T, Good Try.prog R p.1 p.2) (hM : ∀ p ∈ M, GoodM Try.prog R p.1 p.2) : EnvOK (mkEnvM R T M) := ⟨eqsK_ok, hR, fun f F h => lookF_ok hT f F h, fun f F h => lookCm_ok hM f F h, rfl⟩
/-- What is a text. -/
def asS : AV → Option ByteArray
  | .str s => some s
  | .raw (.string s) => some s
  | _ => none
theorem asS_rel {R : Rws} {ρ : Nums} {v : AV} {V : Value} {x : ByteArray} (h : asS v = some x) (hr : Rel R ρ v V) : V = .string x := by
  unfold asS at h
  split at h
  · cases h; cases hr; rfl
  · cases h; cases hr; rfl
  · cases h
/-- Bytes that are known, as numbers. -/
def bytesOf (G : Nat → List AV) (m : Nat) : List Nat := (List.range m).map fun i => ((byteV (G i)).getD 0).toNat
def bytesB (G : Nat → List AV) (m : Nat) : Bool := (List.range m).all fun i => match byteV (G i) with
  | some v => decide (0 ≤ v ∧ v < 256)
  | none => false
theorem bytesOf_len (G : Nat → List AV) (m : Nat) : (bytesOf G m).length = m := by simp [bytesOf]
theorem bytesB_at {G : Nat → List AV} {m : Nat} (h : bytesB G m = true) {i : Nat} (hi : i < m) : ∃ v : Int, byteV (G i) = some v ∧ 0 ≤ v ∧ v < 256 := by
  have := List.all_eq_true.1 h i (List.mem_range.2 hi)
  split at this
  · rename_i v hv
    exact ⟨v, hv, of_decide_eq_true this⟩
  · cases this
theorem byteV_vals {l : List AV} {v : Int} (h : byteV l = some v) : AV.vals? l = some [Value.int .u8 v] := by
  unfold byteV at h
  split at h
  · cases h; rfl
  · cases h; simp [AV.vals?, AV.val?, IntKind.signed]
  · cases h
theorem bytes_slAt {R : Rws} {H : Mem} {Hr : List RBlk} {m : Nat} {y : AV} {Y : Value} {G : Nat → List AV} {cs : List Bool} (hRw : RwOK R) (hB : RelB R (nums Hr) H Hr) (h : newsA R H 1 y = some (m, G, cs)) (hcs : ∀ c ∈ cs, c = true) (hb : bytesB G m = true) (hy : Rel R (nums Hr) y Y) :
    ∃ A c, Y = .slice A m c ∧ ∀ w, OwnK R H Hr w → SlAt w A ((bytesOf G m).map fun x : Nat => Value.int .u8 (x : Int)) := by
  obtain ⟨A, c, rfl, hA⟩ := newsA_slAt (by decide) hRw hB h hcs hy
  refine ⟨A, c, rfl, fun w hO => ?_⟩
  have := hA (fun i => [Value.int .u8 ((byteV (G i)).getD 0)]) (fun i hi => by
    obtain ⟨v, hv, _⟩ := bytesB_at hb hi
    rw [byteV_vals hv, hv]; rfl) w hO
  have e : (bytesOf G m).map (fun x : Nat => Value.int .u8 (x : Int)) = (List.range m).flatMap fun i => [Value.int .u8 ((byteV (G i)).getD 0)] := by
    unfold bytesOf
    rw [List.map_map]
    rw [← List.flatMap_singleton' ((List.range m).map _), List.flatMap_map]
    rw [List.flatMap_def, List.flatMap_def]
    congr 1
    refine List.map_congr_left fun i hi => ?_
    obtain ⟨v, hv, h0, _⟩ := bytesB_at hb (List.mem_range.1 hi)
    simp [hv]; omega
  rw [e]; exact this
theorem bytesOf_lt {G : Nat → List AV} {m : Nat} (hb : bytesB G m = true) : ∀ x ∈ bytesOf G m, x < 256 := fun x hx => by
  obtain ⟨i, hi, rfl⟩ := List.mem_map.1 hx
  obtain ⟨v, hv, h0, h1⟩ := bytesB_at hb (List.mem_range.1 hi)
  simp [hv]; omega
end Go.Proofs.Ytcfomhnfhalmaaa
