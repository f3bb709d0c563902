/- Operations on rows that grow. No program of its own. No condition. -/
import Derived.Test.YtjbleblllmbcbaaEy5
import Derived.Laws.AppendOwn
set_option linter.unusedVariables false
set_option linter.unusedSimpArgs false
namespace Go.Proofs.Ytjbleblllmbcbaa
open Go.RowKit

variable {R : Rws}
section
variable {P : Program} {ρ : Nums} {f : Operand → Option AV} {g : Operand → Value} {H : Mem} {Hr : List RBlk}

theorem gslIndex_sound {t e : TypeId} {l off n s : Nat} {i : Int} {k : IntKind} {q : Num} {X : Value} (hu : P.underlying t = some (.slice e)) (hs : sizeA P e = some s) (hq : ρ[l]? = some q) (he : s = q.s) (hi : 0 ≤ i ∧ i < n) (hx : Rel R ρ (.gsl l off n) X) :
    ∃ V, Rel R ρ (.gptr l ((off : Int) + i) 0) V ∧ ∀ w, (Instr.indexAt t X (.int k i)).run P w = .ok V w := by
  cases hx with | gsl hj hn hz hm =>
  rw [hq] at hj; cases hj
  refine ⟨_, .gptr hq, fun w => ?_⟩
  obtain ⟨m, rfl⟩ := Int.eq_ofNat_of_zero_le hi.1
  have hl : m < n := by have := hi.2; omega
  have e1 : ((off : Int) + (m : Nat)).toNat = off + m := by omega
  simp [Instr.indexAt, asIntOf, run_underlying hu, Instr.sureAddr, run_sizeA hs, Addr.add_lit, hl, he, e1, Nat.add_mul]
theorem gslSlice_sound {t e : TypeId} {l off n s : Nat} {a b : Int} {ka kb : IntKind} {q : Num} {X : Value} {lo hi : Option Value} (hu : P.underlying t = some (.slice e)) (hs : sizeA P e = some s) (hq : ρ[l]? = some q) (he : s = q.s) (hb : 0 ≤ a ∧ a ≤ b ∧ b ≤ n)
    (hlo : (lo = none ∧ a = 0) ∨ (lo = some (.int ka a) ∧ a < n)) (hhi : (hi = none ∧ b = n) ∨ hi = some (.int kb b)) (hx : Rel R ρ (.gsl l off n) X) :
    ∃ V, Rel R ρ (.gsl l (off + a.toNat) (b - a).toNat) V ∧ ∀ w, (Instr.sliceAt t X lo hi none).run P w = .ok V w := by
  cases hx with | gsl hj hn hz hm =>
  rename_i c q'
  rw [hq] at hj; cases hj
  obtain ⟨m, rfl⟩ := Int.eq_ofNat_of_zero_le hb.1
  obtain ⟨k, rfl⟩ := Int.eq_ofNat_of_zero_le (show 0 ≤ b by omega)
  have h1 : m ≤ k := by omega
  have h2 : k ≤ n := by omega
  have e1 : ((k : Int) - (m : Nat)).toNat = k - m := by omega
  have hmc : m ≤ c := by omega
  refine ⟨.slice (some ⟨q.b, (off + m) * q.s, none⟩) (k - m) (c - m), ?_, fun w => ?_⟩
  · rw [e1]
    simp only [Int.ofNat_eq_natCast, Int.toNat_natCast]
    exact .gsl hq (by omega) (by rw [show off + m + (c - m) = off + c by omega]; exact hz) (by omega)
  · have hbd : (Instr.sliceBounds true n c lo hi none).run P w = .ok (m, k, c) w := by
      unfold Instr.sliceBounds
      rcases hlo with ⟨rfl, h0⟩ | ⟨rfl, _⟩ <;> rcases hhi with ⟨rfl, h3⟩ | rfl
      · obtain rfl : m = 0 := by simpa using h0
        obtain rfl : k = n := by omega
        simp
      · obtain rfl : m = 0 := by simpa using h0
        simp [Instr.sliceBound, asIntOf, show k ≤ c by omega]
      · obtain rfl : k = n := by omega
        simp [Instr.sliceBound, asIntOf, h1]
      · simp [Instr.sliceBound, asIntOf, h1, show k ≤ c by omega]
    have hsl : (Instr.sliceAt t (.slice (some ⟨q.b, off * q.s, none⟩) n c) lo hi none).run P w = .ok (.slice (if c = m then some ⟨q.b, off * q.s, none⟩ else some ⟨q.b, off * q.s + m * s, none⟩) (k - m) (c - m)) w := by
      simp [Instr.sliceAt, Instr.slice, run_underlying hu, hbd, run_sizeA hs, Addr.add_lit]
    rw [hsl]
    by_cases hcm : c = m
    · have hm0 : m = 0 := by
        rcases hlo with ⟨_, h0⟩ | ⟨_, h0⟩
        · simpa using h0
        · have : m < n := by simpa using h0
          omega
      rw [if_pos hcm, hm0, Nat.add_zero]
    · rw [if_neg hcm, he, Nat.add_mul]
/-- A cell of an element of a row. -/
theorem row_cell {n s : Nat} {F : Nat → List AV} {cur : Array Value} {w : World} {b : Nat} {t : TypeId} (hB : Blk w b cur t) (h : RowAt n s F cur) {i : Nat} (hi : i < n) : ∃ V, AV.vals? (F i) = some V ∧ V.length = s ∧ (∀ v ∈ V, v.oneCell' = true) ∧ ∀ q u, V[q]? = some u → w.cell? ⟨b, i * s + q, none⟩ = some u := by
  obtain ⟨V, h1, h2, h0, h3⟩ := h i hi
  exact ⟨V, h1, h2, h0, fun q u hu => by rw [hB.cell]; exact h3 q u hu⟩
theorem gptrLoad_sound {t : TypeId} {l n s o : Nat} {i : Int} {F : Nat → List AV} {e : TypeId} {own : Option Nat} {v : AV} {X : Value} (hB : RelB R ρ H Hr) (hρ : ∀ (l : Nat) (p : RBlk), Hr[l]? = some p → ρ[l]? = some p.num) (hl : H[l]? = some (.row n s F e own)) (h : partA P t (F i.toNat) o = some v) (hi : 0 ≤ i ∧ i < n) (hx : Rel R ρ (.gptr l i o) X) :
    ∃ V, Rel R ρ v V ∧ ∀ w, OwnM H Hr w → (Instr.loadAt t X).run P w = .ok V w := by
  obtain ⟨p, h1, h2⟩ := hB.at hl
  cases hx with | gptr hj =>
  rw [hρ _ _ h1] at hj
  obtain rfl := Option.some.inj hj
  cases h2 with | row hr hc hn hm hs =>
  rename_i b cur c
  obtain ⟨m, rfl⟩ := Int.eq_ofNat_of_zero_le hi.1
  have hm : m < n := by have := hi.2; omega
  obtain ⟨Vs, v1, v2, _, v3⟩ := hr m hm
  obtain ⟨V, e3, e4⟩ := load_row (P := P) (ρ := ρ) h (RelL.of_vals v1)
  refine ⟨V, e3, fun w hO => ?_⟩
  have hblk : Blk w b cur e := (hO l _ _ hl h1).2 rfl
  have := e4 w b (m * s) (fun q u hu => by rw [hblk.cell]; exact v3 q u hu)
  simpa [Instr.loadAt, Instr.sureAddr, RBlk.num] using this
theorem vals_len : ∀ {cs : List AV} {V : List Value}, AV.vals? cs = some V → V.length = cs.length
  | [], V, h => by simp [AV.vals?] at h; subst h; rfl
  | c :: r, V, h => by
    unfold AV.vals? at h
    split at h
    · rename_i e1 e2; cases h; simp [vals_len e2]
    · cases h
theorem vals_set : ∀ {cs : List AV} {V : List Value} {c : AV} {v : Value} (i : Nat), AV.vals? cs = some V → c.val? = some v → AV.vals? (cs.set i c) = some (V.set i v)
  | [], V, c, v, i, h, hc => by simp [AV.vals?] at h; subst h; rfl
  | d :: r, V, c, v, i, h, hc => by
    unfold AV.vals? at h
    split at h
    · rename_i x xs e1 e2
      cases h
      cases i with
      | zero => simp [AV.vals?, hc, e2]
      | succ i => simp [AV.vals?, e1, vals_set i e2 hc]
    · cases h
theorem vals_sets : ∀ {vs : List AV} {Vs : List Value} {cs : List AV} {V : List Value} (o : Nat), AV.vals? cs = some V → AV.vals? vs = some Vs → AV.vals? (setsA cs o vs) = some (setsV V o Vs)
  | [], Vs, cs, V, o, h, hv => by simp [AV.vals?] at hv; subst hv; exact h
  | v :: r, Vs, cs, V, o, h, hv => by
    unfold AV.vals? at hv
    split at hv
    · rename_i x xs e1 e2
      cases hv
      unfold setsA setsV
      exact vals_sets (o + 1) (vals_set o h e1) e2
    · cases hv
theorem sets_get : ∀ (vs : List Value) (cs : List Value) (o k : Nat), (setsV cs o vs)[k]? = if o ≤ k ∧ k < o + vs.length ∧ k < cs.length then vs[k - o]? else cs[k]?
  | [], cs, o, k => by unfold setsV; rw [if_neg (by simp; omega)]
  | v :: r, cs, o, k => by
    unfold setsV
    rw [sets_get r (cs.set o v) (o + 1) k]
    simp only [List.length_set, List.length_cons]
    by_cases h1 : o + 1 ≤ k ∧ k < o + 1 + r.length ∧ k < cs.length
    · rw [if_pos h1, if_pos (by omega)]
      obtain ⟨j, rfl⟩ : ∃ j, k = o + 1 + j := ⟨k - (o + 1), by omega⟩
      rw [show o + 1 + j - (o + 1) = j by omega, show o + 1 + j - o = j + 1 by omega, List.getElem?_cons_succ]
    · rw [if_neg h1]
      by_cases h2 : o = k
      · subst h2
        by_cases h3 : o < cs.length
        · rw [List.getElem?_set_self h3, if_pos (by omega)]; simp
        · rw [if_neg (by omega), List.getElem?_eq_none (by simp; omega), List.getElem?_eq_none (by omega)]
      · rw [List.getElem?_set_ne h2, if_neg (by omega)]
theorem sets_all {p : Value → Prop} : ∀ {vs cs : List Value} {o : Nat}, (∀ v ∈ cs, p v) → (∀ v ∈ vs, p v) → ∀ v ∈ setsV cs o vs, p v
  | [], cs, o, hc, hv => hc
  | x :: r, cs, o, hc, hv => by
    unfold setsV
    refine sets_all (fun v h => ?_) fun v h => hv v (List.mem_cons_of_mem _ h)
    rcases List.mem_or_eq_of_mem_set h with h | h
    · exact hc v h
    · subst h; exact hv _ (List.mem_cons_self ..)
theorem rowAt_set {n s o m : Nat} {F : Nat → List AV} {cur : List Value} {vs : List AV} {Vs : List Value} (h : RowAt n s F cur.toArray) (hl : n * s ≤ cur.length) (hv : AV.vals? vs = some Vs) (h1' : ∀ v ∈ Vs, v.oneCell' = true) (ho : o + Vs.length ≤ s) : RowAt n s (fun j => bif Nat.beq j m then setsA (F j) o vs else F j) (setsV cur (m * s + o) Vs).toArray := by
  intro i hi
  obtain ⟨V, h1, h2, h0, h3⟩ := h i hi
  have h4 : i * s + s ≤ cur.length := Nat.le_trans (by rw [← Nat.succ_mul]; exact Nat.mul_le_mul_right s hi) hl
  cases hb : Nat.beq i m with
  | true =>
    obtain rfl := Nat.eq_of_beq_eq_true hb
    refine ⟨setsV V o Vs, by simp only [hb, cond_true]; exact vals_sets o h1 hv, by rw [sets_len]; exact h2, sets_all h0 h1', fun q u hu => ?_⟩
    rw [List.getElem?_toArray, sets_get]
    rw [sets_get] at hu
    by_cases hq : o ≤ q ∧ q < o + Vs.length ∧ q < V.length
    · rw [if_pos hq] at hu
      rw [if_pos (by omega), show i * s + q - (i * s + o) = q - o by omega]
      exact hu
    · rw [if_neg hq] at hu
      have hql : q < V.length := (List.getElem?_eq_some_iff.1 hu).1
      rw [if_neg (by omega)]
      simpa using h3 q u hu
  | false =>
    have hne : i ≠ m := Nat.ne_of_beq_eq_false hb
    refine ⟨V, by simp only [hb, cond_false]; exact h1, h2, h0, fun q u hu => ?_⟩
    have hq : q < s := by rw [← h2]; exact (List.getElem?_eq_some_iff.1 hu).1
    rw [List.getElem?_toArray, sets_get, if_neg ?_]
    · simpa using h3 q u hu
    · rintro ⟨q1, q2, _⟩
      rcases Nat.lt_or_gt_of_ne hne with hlt | hgt
      · have : (i + 1) * s ≤ m * s := Nat.mul_le_mul_right s hlt
        rw [Nat.succ_mul] at this; omega
      · have : (m + 1) * s ≤ i * s := Nat.mul_le_mul_right s hgt
        rw [Nat.succ_mul] at this; omega
theorem gptrStore_sound {t : TypeId} {l o : Nat} {i : Int} {x : AV} {r : Res} {X Y : Value} (hB : RelB R ρ H Hr) (hρ : ∀ (l : Nat) (p : RBlk), Hr[l]? = some p → ρ[l]? = some p.num) (h : storeA P H t (.gptr l i o) x = some r) (hcs : ∀ c ∈ r.cs, c = true) (hx : Rel R ρ (.gptr l i o) X) (hy : Rel R ρ x Y) :
    ∃ F cs, r = .setR l F cs ∧ ∃ b n s F0 cur cur' t', H[l]? = some (.row n s F0 t' none) ∧ Hr[l]? = some ⟨b, s, .cells cur t' (0, 0)⟩ ∧ cur'.size = cur.size ∧ RowAt n s F cur' ∧ ∀ w, OwnM H Hr w → ∃ w', (Instr.storeAt t X Y).run P w = .ok () w' ∧ Same b w w' ∧ Blk w' b cur' t' := by
  unfold storeA at h
  simp only at h
  split at h
  · rename_i n s F e vs k hl hvs hn
    split at h
    · rename_i hb
      cases h
      simp only [Bool.and_eq_true] at hb
      obtain ⟨⟨⟨h1, h2⟩, h3⟩, h4⟩ := hb
      have h1 := Nat.eq_of_beq_eq_true h1
      have h2 := Nat.le_of_ble_eq_true h2
      have hi := of_decide_eq_true (hcs _ (List.mem_singleton.2 rfl))
      obtain ⟨m, rfl⟩ := Int.eq_ofNat_of_zero_le hi.1
      have hm : m < n := by have := hi.2; omega
      obtain ⟨p, e1, e2⟩ := hB.at hl
      cases hx with | gptr hj =>
      rw [hρ _ _ e1] at hj
      obtain rfl := Option.some.inj hj
      cases e2 with | row hr hc hnc hmx hs =>
      rename_i b cur c
      obtain ⟨Vs, hVs⟩ := Option.isSome_iff_exists.1 h4
      have hy' := hy.cells hvs
      have hVs' := hy'.vals hVs
      obtain ⟨V0, v1, v2, _, _⟩ := hr m hm
      have hF : (F m).length = s := by rw [← v2, vals_len v1]
      have hlv : Vs.length = vs.length := vals_len hVs
      have ho : o + Vs.length ≤ s := by rw [hlv, ← hF]; exact h2
      have hsz : n * s ≤ cur.toList.length := by simp only [Array.length_toList, hc]; exact Nat.mul_le_mul_right s hnc
      have hrow := rowAt_set (m := m) (o := o) (cur := cur.toList) (by simpa using hr) hsz hVs (by rw [← hVs']; exact allOne_sound h3 hy') ho
      refine ⟨_, _, rfl, b, n, s, F, cur, (setsV cur.toList (m * s + o) Vs).toArray, e, hl, e1, by simp [sets_len], hrow, fun w hO => ?_⟩
      have hblk : Blk w b cur.toList.toArray e := by have := (hO l _ _ hl e1).2 rfl; simpa [Blk] using this
      have hms : m * s + s ≤ cur.toList.length := Nat.le_trans (by rw [← Nat.succ_mul]; exact Nat.mul_le_mul_right s hm) hsz
      obtain ⟨w', r1, r2, r3⟩ := store_run (P := P) Y.cells.toList cur.toList w b (m * s + o) 0 e (allOne_sound h3 hy') hblk (by rw [hVs']; omega)
      rw [hVs', Nat.add_zero] at r3
      refine ⟨w', ?_, r2, r3⟩
      have hlx := hy'.len
      simp only [Array.length_toList] at hlx
      simpa [Instr.storeAt, Instr.sureAddr, storeVar, run_sizeA hn, hlx, h1, RBlk.num] using r1
    · cases h
  · cases h
theorem rng_len {V : Nat → List Value} {s : Nat} : ∀ {m : Nat}, (∀ i, i < m → (V i).length = s) → ((List.range m).flatMap V).length = m * s
  | 0, _ => by simp
  | m + 1, h => by
    rw [List.range_succ, List.flatMap_append, List.length_append, rng_len fun i hi => h i (by omega)]
    simp [h m (by omega), Nat.succ_mul]
theorem rng_get {V : Nat → List Value} {s : Nat} : ∀ {m : Nat}, (∀ i, i < m → (V i).length = s) → ∀ i q, i < m → q < s → ((List.range m).flatMap V)[i * s + q]? = (V i)[q]?
  | 0, _, i, q, hi, _ => absurd hi (by omega)
  | m + 1, h, i, q, hi, hq => by
    have hl := rng_len (V := V) (s := s) (m := m) fun i hi => h i (by omega)
    rw [List.range_succ, List.flatMap_append]
    by_cases e : i = m
    · subst e
      rw [List.getElem?_append_right (by rw [hl]; omega), hl, show i * s + q - i * s = q by omega]
      simp
    · have : (i + 1) * s ≤ m * s := Nat.mul_le_mul_right s (by omega)
      rw [Nat.succ_mul] at this
      rw [List.getElem?_append_left (by rw [hl]; omega)]
      exact rng_get (fun i hi => h i (by omega)) i q (by omega) hq
theorem vals_drop : ∀ {cs : List AV} {V : List Value} (n : Nat), AV.vals? cs = some V → AV.vals? (cs.drop n) = some (V.drop n)
  | cs, V, 0, h => h
  | [], V, n + 1, h => by simp [AV.vals?] at h; subst h; rfl
  | c :: r, V, n + 1, h => by
    unfold AV.vals? at h
    split at h
    · rename_i e1 e2; cases h; exact vals_drop n e2
    · cases h
theorem vals_take : ∀ {cs : List AV} {V : List Value} (n : Nat), AV.vals? cs = some V → AV.vals? (cs.take n) = some (V.take n)
  | cs, V, 0, h => rfl
  | [], V, n + 1, h => by simp [AV.vals?] at h; subst h; rfl
  | c :: r, V, n + 1, h => by
    unfold AV.vals? at h
    split at h
    · rename_i e1 e2; cases h; simp [AV.vals?, e1, vals_take n e2]
    · cases h
theorem newsA_sound (hRw : RwOK R) (hB : RelB R ρ H Hr) (hρ : ∀ (l : Nat) (p : RBlk), Hr[l]? = some p → ρ[l]? = some p.num) {s m : Nat} {y : AV} {Y : Value} {G : Nat → List AV} {cs : List Bool} (h : newsA R H s y = some (m, G, cs)) (hcs : ∀ c ∈ cs, c = true) (hm : 0 < m) (hsP : ∀ l off k n s' F t own, y = .gsl l off k → H[l]? = some (.row n s' F t own) → s' = s) (hy : Rel R ρ y Y) :
    ∃ a c, Y = .slice (some a) m c ∧ ∀ i, i < m → ∃ V, AV.vals? (G i) = some V ∧ V.length = s ∧ (∀ v ∈ V, v.oneCell' = true) ∧ ∀ w, OwnK R H Hr w → ∀ q u, V[q]? = some u → w.cell? (a.add (i * s + q)) = some u := by
  unfold newsA at h
  split at h
  · rename_i l o m' c
    split at h
    · rename_i cs0 t hl
      cases hb : (Nat.ble (o + m' * s) cs0.length && allOne ((cs0.drop o).take (m' * s)) && (AV.vals? ((cs0.drop o).take (m' * s))).isSome) <;> simp only [hb, cond_true, cond_false] at h
      · cases h
      · cases h
        simp only [Bool.and_eq_true] at hb
        obtain ⟨⟨h1, h2⟩, h3⟩ := hb
        have h1 := Nat.le_of_ble_eq_true h1
        obtain ⟨b, s0, Cs, e1, e2⟩ := hB.get hl
        cases hy with | slice hp =>
        rw [hρ _ _ e1] at hp
        obtain rfl := Option.some.inj hp
        obtain ⟨Vs, hVs⟩ := Option.isSome_iff_exists.1 h3
        have hrel := (e2.drop o).take (m * s)
        have hCs := hrel.vals hVs
        refine ⟨⟨b, o, none⟩, c, rfl, fun i hi => ⟨(Vs.drop (i * s)).take s, vals_take s (vals_drop (i * s) hVs), ?_, ?_, ?_⟩⟩
        · have hlen := vals_len hVs
          have : (i + 1) * s ≤ m * s := Nat.mul_le_mul_right s hi
          rw [Nat.succ_mul] at this
          simp only [List.length_take, List.length_drop] at hlen ⊢
          omega
        · intro v hv
          exact allOne_sound h2 hrel v (by rw [hCs]; exact List.mem_of_mem_drop (List.mem_of_mem_take hv))
        · intro w hO q u hu
          have hblk : Blk w b Cs.toArray t := (hO.1 l _ _ hl e1).2 rfl
          rw [Addr.add_lit, hblk.cell, List.getElem?_toArray]
          rw [← hCs] at hu
          rw [List.getElem?_take] at hu
          split at hu
          · rw [List.getElem?_drop, List.getElem?_take] at hu
            split at hu
            · rw [List.getElem?_drop] at hu
              rw [show o + (i * s + q) = o + (i * s + q) from rfl]; exact hu
            · cases hu
          · cases hu
    · cases h
  · rename_i l off m'
    split at h
    · rename_i n s' F t own hl
      split at h
      · rename_i hss
        cases h
        subst hss
        have hle := of_decide_eq_true (hcs _ (List.mem_singleton.2 rfl))
        obtain ⟨p, e1, e2⟩ := hB.at hl
        cases hy with | gsl hj hn hz hmx =>
        rw [hρ _ _ e1] at hj
        obtain rfl := Option.some.inj hj
        cases e2 with | row hr hc hnc hmm hs =>
        rename_i c0 b cur cc
        refine ⟨⟨b, off * s', none⟩, c0, rfl, fun i hi => ?_⟩
        obtain ⟨V, v1, v2, v0, v3⟩ := hr (off + i) (by omega)
        refine ⟨V, v1, v2, v0, fun w hO q u hu => ?_⟩
        have hblk : Blk w b cur t := (hO.1 l _ _ hl e1).2 rfl
        rw [Addr.add_lit, hblk.cell]
        have := v3 q u hu
        rwa [Nat.add_mul, Nat.add_assoc] at this
      · cases h
    · cases h
  · rename_i j m' c
    split at h
    · rename_i r hr
      split at h
      · rename_i hss
        cases h
        subst hss
        cases hy with | rsl hj hle =>
        rw [hr] at hj; cases hj
        obtain ⟨b, off, ha⟩ := hRw.addr j r hr hm
        refine ⟨⟨b, off, none⟩, c, by rw [ha], fun i hi => ⟨r.V i, hRw.vals j r hr i hi, hRw.len j r hr i hi, hRw.one j r hr i hi, fun w hO q u hu => ?_⟩⟩
        obtain ⟨_, _, h3⟩ := hO.2 j r hr b off ha hm
        rw [Addr.add_lit]
        have := h3 i hi q u hu
        rwa [Nat.add_assoc] at this
      · cases h
    · cases h
  · cases h
theorem rowAt_less {n N s : Nat} {F : Nat → List AV} {cur : Array Value} (h : RowAt N s F cur) (hn : n ≤ N) : RowAt n s F cur := fun i hi => h i (by omega)
/-- Rows one behind the other. -/
theorem rowAt_app {n m s : Nat} {F G : Nat → List AV} {A B C : List Value} (hA : RowAt n s F A.toArray) (hl : A.length = n * s) (hB : RowAt m s G B.toArray) (hm : B.length = m * s) : RowAt (n + m) s (fun i => bif Nat.blt i n then F i else G (i - n)) (A ++ B ++ C).toArray ∧ RowAt n s F (A ++ B ++ C).toArray := by
  have key : RowAt n s F (A ++ B ++ C).toArray := fun i hi => by
    obtain ⟨V, h1, h2, h0, h3⟩ := hA i hi
    refine ⟨V, h1, h2, h0, fun q u hu => ?_⟩
    have hq : q < s := by rw [← h2]; exact (List.getElem?_eq_some_iff.1 hu).1
    have : (i + 1) * s ≤ n * s := Nat.mul_le_mul_right s hi
    rw [Nat.succ_mul] at this
    rw [List.getElem?_toArray, List.append_assoc, List.getElem?_append_left (by omega)]
    simpa using h3 q u hu
  refine ⟨fun i hi => ?_, key⟩
  cases hb : Nat.blt i n with
  | true =>
    have : i < n := by rw [Nat.blt_eq] at hb; exact hb
    obtain ⟨V, h1, h⟩ := key i this
    exact ⟨V, by simp only [hb, cond_true]; exact h1, h⟩
  | false =>
    have hni : n ≤ i := by
      rcases Nat.lt_or_ge i n with h | h
      · rw [← Nat.blt_eq, hb] at h; cases h
      · exact h
    obtain ⟨k, rfl⟩ := Nat.exists_eq_add_of_le hni
    obtain ⟨V, h1, h2, h0, h3⟩ := hB k (by omega)
    refine ⟨V, by simp only [hb, cond_false, show n + k - n = k by omega]; exact h1, h2, h0, fun q u hu => ?_⟩
    have hq : q < s := by rw [← h2]; exact (List.getElem?_eq_some_iff.1 hu).1
    have : (k + 1) * s ≤ m * s := Nat.mul_le_mul_right s (by omega)
    rw [Nat.succ_mul] at this
    rw [List.getElem?_toArray, List.append_assoc, List.getElem?_append_right (by rw [hl, Nat.add_mul]; omega), hl, Nat.add_mul, show n * s + k * s + q - n * s = k * s + q by omega, List.getElem?_append_left (by omega)]
    simpa using h3 q u hu
theorem appendA_sound (hRw : RwOK R) (hB : RelB R ρ H Hr) (hρ : ∀ (l : Nat) (p : RBlk), Hr[l]? = some p → ρ[l]? = some p.num) {t ty : TypeId} {x y : AV} {r : Res} {X Y : Value} (h : appendA P R H t x y = some r) (hcs : ∀ c ∈ r.cs, c = true) (hx : Rel R ρ x X) (hy : Rel R ρ y Y) :
    (∃ l n n' s F e cs, r = .app l n n' s F e cs ∧ ∃ N F0 b cur, H[l]? = some (.row N s F0 e none) ∧ Hr[l]? = some ⟨b, s, .cells cur e (0, 0)⟩ ∧ n ≤ N ∧ RowAt n s F0 cur ∧ 0 < s ∧ ∀ w, OwnK R H Hr w → ∃ q cap cur' w', (Builtin.append_ #[t, t] ty #[X, Y]).run P w = .ok (.slice (some ⟨q, 0, none⟩) n' cap) w' ∧ Laid w' q cap n' s F e cur' ∧ w.grownBy w' (some b) ∧
      ((q = b ∧ cur'.size = cur.size ∧ RowAt n s F0 cur') ∨ (q = w.heap.size ∧ w'.heap[b]? = w.heap[b]?))) ∨
    (∃ n s F e cs, r = .newR n s F e cs ∧ 0 < s ∧ ∀ w, OwnK R H Hr w → ∃ cap cur' w', (Builtin.append_ #[t, t] ty #[X, Y]).run P w = .ok (.slice (some ⟨w.heap.size, 0, none⟩) n cap) w' ∧ Laid w' w.heap.size cap n s F e cur' ∧ Below w.heap.size w w') := by
  unfold appendA at h
  split at h
  · rename_i e hu
    split at h
    · rename_i i hi
      split at h
      · rename_i z hz
        cases hb : (Nat.blt 0 i.size && Nat.beq z.cells.size i.size && Nat.ble i.bytes 1000) <;> simp only [hb, cond_true, cond_false] at h
        · cases h
        simp only [Bool.and_eq_true] at hb
        obtain ⟨⟨b1, b2⟩, b3⟩ := hb
        have b1 : 0 < i.size := by rw [Nat.blt_eq] at b1; exact b1
        have b2 := Nat.eq_of_beq_eq_true b2
        have b3 := Nat.le_of_ble_eq_true b3
        -- the elements that are laid on
        have news : ∀ {m : Nat} {G : Nat → List AV} {cs : List Bool}, newsA R H i.size y = some (m, G, cs) → (∀ c ∈ cs, c = true) → 0 < m → ∃ (a : Addr) (c : Nat) (ns : List Value), Y = .slice (some a) m c ∧ ns.length = m * i.size ∧ (∀ u ∈ ns, u.oneCell' = true) ∧ RowAt m i.size G ns.toArray ∧ ∀ w, OwnK R H Hr w → ∀ j u, ns[j]? = some u → w.cell? (a.add j) = some u := by
          intro m G cs hn hcs' hm
          obtain ⟨a, c, rfl, hV⟩ := newsA_sound hRw hB hρ hn hcs' hm (fun l off k n s' F t own e1 e2 => by
            subst e1
            unfold newsA at hn
            simp only [e2] at hn
            split at hn
            · assumption
            · cases hn) hy
          have hVe : ∀ k, k < m → ∃ V, AV.vals? (G k) = some V ∧ (AV.vals? (G k)).getD [] = V ∧ V.length = i.size := fun k hk => by
            obtain ⟨V, v1, v2, _⟩ := hV k hk
            exact ⟨V, v1, by rw [v1]; rfl, v2⟩
          have hlen : ∀ k, k < m → ((AV.vals? (G k)).getD []).length = i.size := fun k hk => by obtain ⟨V, _, v2, v3⟩ := hVe k hk; rw [v2]; exact v3
          refine ⟨a, c, (List.range m).flatMap fun k => (AV.vals? (G k)).getD [], rfl, rng_len hlen, fun u hu => ?_, fun k hk => ?_, fun w hO j u hj => ?_⟩
          · obtain ⟨k, hk, hu⟩ := List.mem_flatMap.1 hu
            have hk := List.mem_range.1 hk
            obtain ⟨V, v1, v2, v0, _⟩ := hV k hk
            rw [v1] at hu
            exact v0 u hu
          · obtain ⟨V, v1, v2, v0, _⟩ := hV k hk
            refine ⟨V, v1, v2, v0, fun q u hu => ?_⟩
            rw [List.getElem?_toArray, rng_get hlen k q hk (by rw [← v2]; exact (List.getElem?_eq_some_iff.1 hu).1), v1]
            exact hu
          · have hjl : j < m * i.size := by rw [← rng_len hlen]; exact (List.getElem?_eq_some_iff.1 hj).1
            have hk : j / i.size < m := (Nat.div_lt_iff_lt_mul b1).2 hjl
            have hq := Nat.mod_lt j b1
            obtain ⟨V, v1, v2, v0, v3⟩ := hV (j / i.size) hk
            have e1 : j / i.size * i.size + j % i.size = j := Nat.div_add_mod' j i.size
            rw [← e1, rng_get hlen (j / i.size) (j % i.size) hk hq, v1] at hj
            have := v3 w hO (j % i.size) u hj
            rwa [e1] at this
        split at h
        · rename_i l n
          split at h
          · rename_i N s F e' m G cs hl hn
            split at h
            · rename_i hse
              obtain ⟨rfl, rfl⟩ := hse
              cases h
              simp only [Res.cs, List.mem_cons, forall_eq_or_imp, decide_eq_true_eq] at hcs
              obtain ⟨c0, c1, c2, c3⟩ := hcs
              obtain ⟨a, c, ns, rfl, n1, n2, n3, n4⟩ := news hn c3 c0
              obtain ⟨p, e1, e2⟩ := hB.at hl
              cases hx with | gsl hj hnc hzz hmx =>
              rw [hρ _ _ e1] at hj
              obtain rfl := Option.some.inj hj
              cases e2 with | row hr hc hNc hmm hs =>
              rename_i c' b cur cc
              have hcc : c' = cc := by
                have : c' * i.size = cc * i.size := by rw [← hc]; simpa [RBlk.num, cntO] using hzz
                exact Nat.eq_of_mul_eq_mul_right b1 this
              subst hcc
              refine .inl ⟨l, n, n + m, i.size, _, e', _, rfl, N, F, b, cur, hl, e1, c1, rowAt_less hr c1, b1, fun w hO => ?_⟩
              have hblk : w.heap[b]? = some (.cells cur e' (0, 0)) := (hO.1 l _ _ hl e1).2 rfl
              have hcl : cur.toList.length = c' * i.size := by simpa using hc
              have htk : (cur.toList.take (n * i.size)).length = n * i.size := by
                rw [List.length_take, hcl]
                exact Nat.min_eq_left (Nat.mul_le_mul_right _ hnc)
              have hrA : RowAt n i.size F (cur.toList.take (n * i.size)).toArray := fun k hk => by
                obtain ⟨V, h1, h2, h0, h3⟩ := hr k (by omega)
                refine ⟨V, h1, h2, h0, fun q u hu => ?_⟩
                have hq : q < i.size := by rw [← h2]; exact (List.getElem?_eq_some_iff.1 hu).1
                have : (k + 1) * i.size ≤ n * i.size := Nat.mul_le_mul_right _ hk
                rw [Nat.succ_mul] at this
                rw [List.getElem?_toArray, List.getElem?_take, if_pos (by omega)]
                simpa using h3 q u hu
              have e0 : (⟨(⟨b, i.size, .cells cur e' (0, 0)⟩ : RBlk).num.b, 0 * (⟨b, i.size, .cells cur e' (0, 0)⟩ : RBlk).num.s, none⟩ : Addr) = ⟨b, 0, none⟩ := by simp [RBlk.num]
              rw [e0]
              by_cases hroom : n + m ≤ c'
              · have hfit : n * i.size + ns.length ≤ cur.size := by rw [n1, hc, ← Nat.add_mul]; exact Nat.mul_le_mul_right _ hroom
                have hrun := run_append_room (P := P) w t ty e' i hu hi b n c' cur hblk a m c ns n1 (n4 w hO) n2 hroom hfit
                obtain ⟨r1, r2⟩ := rowAt_app (C := cur.toList.drop (n * i.size + ns.length)) hrA htk n3 n1
                have hsz : (cur.toList.take (n * i.size) ++ ns ++ cur.toList.drop (n * i.size + ns.length)).toArray.size = cur.size := by
                  simp only [List.size_toArray, List.length_append, htk, List.length_drop, Array.length_toList]
                  omega
                exact ⟨b, c', _, _, hrun, ⟨setRow_heap w b cur _ e' _ hblk, by rw [hsz, hc], hroom, hmx, r1⟩, ⟨rfl, rfl, rfl, by simp, fun k _ hk => setRow_other w b k _ (fun e => hk (by rw [e]))⟩, .inl ⟨rfl, hsz, r2⟩⟩
              · have hold : ∀ j u, (cur.toList.take (n * i.size))[j]? = some u → w.cell? ((⟨b, 0, none⟩ : Addr).add j) = some u := fun j u hj => by
                  rw [Addr.add_lit, Nat.zero_add, (show Blk w b cur e' from hblk).cell]
                  rw [List.getElem?_take] at hj
                  split at hj
                  · simpa using hj
                  · cases hj
                have hrun := run_append_grow (P := P) w t ty e' i z hu hi hz ⟨b, 0, none⟩ n c' (cur.toList.take (n * i.size)) htk hold a m c ns n1 (n4 w hO) (by omega) (by omega) (growslice_fits (by omega) (by
                  have : (n + m) * i.bytes ≤ 1000000 * 1000 := Nat.mul_le_mul c2 b3
                  omega))
                have hge := grownCap_ge w (n + m) c' e'
                have hgm : grownCap w (n + m) c' e' ≤ maxLen := grownCap_le_maxLen w (n + m) c' e' (by simp only [maxLen]; omega)
                obtain ⟨r1, r2⟩ := rowAt_app (C := (Builtin.zeroCells z.cells (grownCap w (n + m) c' e' - (n + m))).toList) hrA htk n3 n1
                have hcur : ((cur.toList.take (n * i.size)).toArray ++ ns.toArray ++ Builtin.zeroCells z.cells (grownCap w (n + m) c' e' - (n + m))) = (cur.toList.take (n * i.size) ++ ns ++ (Builtin.zeroCells z.cells (grownCap w (n + m) c' e' - (n + m))).toList).toArray := by
                  apply Array.toList_inj.1; simp
                rw [hcur] at hrun
                have hnb : b ≠ w.heap.size := by have := (Array.getElem?_eq_some_iff.1 hblk).1; omega
                refine ⟨w.heap.size, _, _, _, hrun, ⟨heap_alloc_new w.drew _, ?_, hge, hgm, r1⟩, ⟨rfl, rfl, rfl, by simp, fun k hk _ => heap_alloc_old w.drew _ hk⟩, .inr ⟨rfl, heap_alloc_old w.drew _ (Array.getElem?_eq_some_iff.1 hblk).1⟩⟩
                simp only [List.size_toArray, List.length_append, htk, n1, Array.length_toList, size_zeroCells, b2, ← Nat.add_mul]
                congr 1
                omega
            · cases h
          · cases h
        · split at h
          · rename_i m G cs hn
            cases h
            simp only [Res.cs, List.mem_cons, forall_eq_or_imp, decide_eq_true_eq] at hcs
            obtain ⟨c0, c2, c3⟩ := hcs
            obtain ⟨a, c, ns, rfl, n1, n2, n3, n4⟩ := news hn c3 c0
            cases hx
            refine .inr ⟨m, i.size, G, e, _, rfl, b1, fun w hO => ?_⟩
            have hrun := run_append_nil (P := P) w t ty e i z hu hi hz a m c ns n1 (n4 w hO) (by omega) (by omega) (by
              have : m * i.bytes ≤ 1000000 * 1000 := Nat.mul_le_mul c2 b3
              omega)
            have hge := grownCap_ge w m 0 e
            have hgm : grownCap w m 0 e ≤ maxLen := grownCap_le_maxLen w m 0 e (by simp only [maxLen]; omega)
            have hcur : (ns.toArray ++ Builtin.zeroCells z.cells (grownCap w m 0 e - m)) = (([] : List Value) ++ ns ++ (Builtin.zeroCells z.cells (grownCap w m 0 e - m)).toList).toArray := by
              apply Array.toList_inj.1; simp
            rw [hcur] at hrun
            obtain ⟨r1, _⟩ := rowAt_app (n := 0) (s := i.size) (F := G) (A := []) (C := (Builtin.zeroCells z.cells (grownCap w m 0 e - m)).toList) (fun k hk => absurd hk (by omega)) (by simp) n3 n1
            have r1' : RowAt m i.size G (([] : List Value) ++ ns ++ (Builtin.zeroCells z.cells (grownCap w m 0 e - m)).toList).toArray := fun k hk => by
              obtain ⟨V, h1, h2⟩ := r1 k (by omega)
              exact ⟨V, by simpa using h1, h2⟩
            refine ⟨_, _, _, hrun, ⟨heap_alloc_new w.drew _, ?_, hge, hgm, r1'⟩, ((Below.refl _ w).drew).alloc (Nat.le_refl _) _⟩
            simp only [List.size_toArray, List.length_append, List.length_nil, n1, Array.length_toList, size_zeroCells, b2, Nat.zero_add, ← Nat.add_mul]
            congr 1
            omega
          · cases h
        · cases h
      · cases h
    · cases h
  · cases h
end
end Go.Proofs.Ytjbleblllmbcbaa
