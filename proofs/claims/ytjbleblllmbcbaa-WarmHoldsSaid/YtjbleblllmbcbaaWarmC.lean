/- Calls of a set, in rows; what is put into maps; works. No condition. -/
import Derived.Test.YtjbleblllmbcbaaWarmB
set_option linter.unusedVariables false
set_option linter.unusedSimpArgs false
set_option maxRecDepth 100000
namespace Go.Proofs.Ytjbleblllmbcbaa
open Go.RowKit

/-- A call: which; an address's bytes; a key's parts. -/
structure Ac where
  w : Int
  a : List Int
  k : List Int
def u20 : List IntKind := List.replicate 20 .u8
def u4 : List IntKind := List.replicate 4 .u64
def u24 : List IntKind := u20 ++ u4
def Ac.cells (x : Ac) : List Value := .int .i64 x.w :: (cellsK u20 (spell u20 x.a) ++ cellsK u4 (spell u4 x.k))
def acA (x : Ac) : List AV := .int .i64 false x.w :: (keyA u20 x.a ++ keyA u4 x.k)
def Ac.ka (x : Ac) : List Int := spell u20 x.a
def Ac.ks (x : Ac) : List Int := spell u20 x.a ++ spell u4 x.k
def ac0 : Ac := ⟨0, [], []⟩
theorem keyA_vals : ∀ (ks : List IntKind) (ns : List Int), AV.vals? (keyA ks ns) = some (cellsK ks (spell ks ns))
  | [], _ => rfl
  | k :: ks, ns => by
    have := keyA_vals ks ns.tail
    simp only [keyA, AV.vals?, AV.val?, this, spell]; rfl
theorem vals_append {a b : List AV} {x y : List Value} (h1 : AV.vals? a = some x) (h2 : AV.vals? b = some y) : AV.vals? (a ++ b) = some (x ++ y) := by
  induction a generalizing x with
  | nil => simp [AV.vals?] at h1; subst h1; exact h2
  | cons c a ih =>
    unfold AV.vals? at h1
    split at h1
    · rename_i e1 e2
      cases h1
      have := ih e2
      simp [AV.vals?, e1, this]
    · cases h1
theorem vals_acA (x : Ac) : AV.vals? (acA x) = some x.cells := by
  have := vals_append (keyA_vals u20 x.a) (keyA_vals u4 x.k)
  simp only [acA, AV.vals?, AV.val?, this, Ac.cells]
theorem spell_len : ∀ (ks : List IntKind) (ns : List Int), (spell ks ns).length = ks.length
  | [], _ => rfl
  | k :: ks, ns => by simp [spell, spell_len ks]
theorem cells_len (x : Ac) : x.cells.length = 25 := by
  simp only [Ac.cells, List.length_cons, List.length_append, cellsK_len (spell_len _ _)]; rfl
theorem cellsK_one {ks : List IntKind} {ns : List Int} : ∀ v ∈ cellsK ks ns, v.oneCell' = true := by
  intro v hv
  simp only [cellsK] at hv
  obtain ⟨i, hi, he⟩ := List.mem_iff_getElem.1 hv
  rw [List.getElem_zipWith] at he
  rw [← he]; rfl
theorem cells_one (x : Ac) : ∀ v ∈ x.cells, v.oneCell' = true := by
  intro v hv
  simp only [Ac.cells, List.mem_cons, List.mem_append] at hv
  rcases hv with rfl | hv | hv
  · rfl
  · exact cellsK_one v hv
  · exact cellsK_one v hv
/-- A row of calls. -/
def rowA (A : Option Addr) (xs : List Ac) : RowI := ⟨A, xs.length, 25, fun i => acA (xs.getD i.toNat ac0), fun i => (xs.getD i ac0).cells, []⟩
theorem rowA_ok {A : Option Addr} {xs : List Ac} (hA : 0 < xs.length → ∃ b off, A = some ⟨b, off, none⟩) : RwOK (rows1 (rowA A xs)) := by
  refine ⟨fun j r hj i _ => ?_, fun j r hj i _ => ?_, fun j r hj i _ => ?_, fun j r hj hn => ?_, fun j r hj a j' hs => ?_⟩ <;> obtain ⟨_, rfl⟩ := rows1_inv hj
  · exact vals_acA _
  · exact cells_len _
  · exact cells_one _
  · exact hA hn
  · cases hs
theorem flat_row {α : Type} {f : α → List Value} {s : Nat} {d : α} (hs : 0 < s) (hf : ∀ x, (f x).length = s) (xs : List α) : (xs.flatMap f).length = xs.length * s ∧ ∀ i q u, i < xs.length → (f (xs.getD i d))[q]? = some u → (xs.flatMap f)[i * s + q]? = some u := by
  induction xs with
  | nil => exact ⟨by simp, fun i q u h => by simp at h⟩
  | cons x xs ih =>
    obtain ⟨h1, h2⟩ := ih
    rw [List.flatMap_cons]
    refine ⟨by rw [List.length_append, hf, h1, List.length_cons, Nat.add_mul, Nat.one_mul, Nat.add_comm], fun i q u hi hu => ?_⟩
    cases i with
    | zero =>
      have hq : q < s := by have := (List.getElem?_eq_some_iff.1 hu).1; rwa [hf] at this
      rw [Nat.zero_mul, Nat.zero_add, List.getElem?_append_left (by rw [hf]; exact hq)]
      exact hu
    | succ i =>
      rw [List.getElem?_append_right (by rw [hf, Nat.add_mul, Nat.one_mul]; omega), hf, show (i + 1) * s + q - s = i * s + q by rw [Nat.add_mul, Nat.one_mul]; omega]
      exact h2 i q u (by simpa using hi) hu
theorem rowA_rd {A : Option Addr} {xs : List Ac} {w : World} (hS : SlAt w A (xs.flatMap Ac.cells)) : (0 < xs.length → ∃ b off, A = some ⟨b, off, none⟩) ∧ Rd (rows1 (rowA A xs)) [] w := by
  obtain ⟨h1, h2⟩ := flat_row (d := ac0) (s := 25) (by decide) cells_len xs
  rcases hS with h | ⟨b, off, rfl, hb, hc⟩
  · have h0 : xs.length = 0 := by
      have := congrArg List.length h
      rw [h1] at this; simp at this; omega
    refine ⟨fun h => absurd h (by omega), fun j r hj b off ha hn => ?_⟩
    obtain ⟨_, rfl⟩ := rows1_inv hj
    exact absurd hn (by show ¬ 0 < xs.length; omega)
  · refine ⟨fun _ => ⟨b, off, rfl⟩, fun j r hj b' off' ha hn => ?_⟩
    obtain ⟨_, rfl⟩ := rows1_inv hj
    cases ha
    exact ⟨by simp, hb, fun i hi q u hu => by
      have := hc _ _ (h2 i q u hi hu)
      show w.cell? ⟨b, off + i * 25 + q, none⟩ = some u
      rw [Nat.add_assoc]; exact this⟩
/-- A number under a key. -/
def hdI (v : List Value) : Int := match v.headD undef with
  | .int _ n => n
  | _ => 0
/-- So many keys put, one behind the other. -/
def insM (v : List Value) (K : List (List Int)) : List Ent := K.foldl (fun E k => putM k v E) []
theorem insM_snoc (v : List Value) (K : List (List Int)) (k : List Int) : insM v (K ++ [k]) = putM k v (insM v K) := by simp [insM]
theorem lookM_put (k k' : List Int) (v : List Value) : ∀ E : List Ent, lookM k (putM k' v E) = if k' = k then some v else lookM k E
  | [] => by
    unfold putM lookM
    by_cases h : k' = k
    · simp [h]
    · have : (k' == k) = false := by simpa using h
      simp only [this, cond_false, if_neg h]
      rfl
  | (q, u) :: r => by
    have ih := lookM_put k k' v r
    unfold putM
    cases hq : (q == k') <;> simp only [cond_true, cond_false]
    · unfold lookM
      rw [ih]
      cases hk : (q == k) <;> simp only [cond_true, cond_false]
      have e := eq_of_beq hk
      subst e
      have : k' ≠ q := fun e => by rw [e] at hq; simp at hq
      simp [this]
    · have e := eq_of_beq hq
      subst e
      unfold lookM
      by_cases h : q = k
      · simp [h]
      · have : (q == k) = false := by simpa using h
        simp only [this, cond_false, if_neg h]
theorem lookM_ins (v : List Value) (k : List Int) (K : List (List Int)) : lookM k (insM v K) = if k ∈ K then some v else none := by
  have key : ∀ (K : List (List Int)) (E : List Ent), lookM k (K.foldl (fun E k => putM k v E) E) = if k ∈ K then some v else lookM k E := by
    intro K
    induction K with
    | nil => intro E; simp
    | cons q K ih =>
      intro E
      rw [List.foldl_cons, ih, lookM_put]
      by_cases h1 : k ∈ K
      · simp [h1]
      · by_cases h2 : q = k
        · simp [h2]
        · have : ¬ k = q := fun e => h2 e.symm
          simp [h1, h2, this]
  exact key K []
theorem ins_keys (v : List Value) : ∀ (K : List (List Int)) (E : List Ent), (E.map (·.1)).Nodup → ((K.foldl (fun E k => putM k v E) E).map (·.1)).Nodup ∧ ∀ q, q ∈ (K.foldl (fun E k => putM k v E) E).map (·.1) ↔ q ∈ K ∨ q ∈ E.map (·.1)
  | [], E, h => ⟨h, fun q => by simp⟩
  | k :: K, E, h => by
    have hp : ((putM k v E).map (·.1)).Nodup ∧ ∀ q, q ∈ (putM k v E).map (·.1) ↔ q = k ∨ q ∈ E.map (·.1) := by
      clear K
      induction E with
      | nil => exact ⟨by simp [putM], fun q => by simp [putM]⟩
      | cons p r ih =>
        obtain ⟨a, u⟩ := p
        rw [List.map_cons, List.nodup_cons] at h
        obtain ⟨i1, i2⟩ := ih h.2
        unfold putM
        cases hq : (a == k) <;> simp only [cond_true, cond_false]
        · have hne : a ≠ k := fun e => by rw [e] at hq; simp at hq
          refine ⟨?_, fun q => ?_⟩
          · rw [List.map_cons, List.nodup_cons]
            exact ⟨fun hm => by
              rcases (i2 a).1 hm with e | e
              · exact hne e
              · exact h.1 e, i1⟩
          · rw [List.map_cons, List.mem_cons, i2, List.map_cons, List.mem_cons]
            constructor
            · rintro (e | e | e)
              · exact .inr (.inl e)
              · exact .inl e
              · exact .inr (.inr e)
            · rintro (e | e | e)
              · exact .inr (.inl e)
              · exact .inl e
              · exact .inr (.inr e)
        · have e := eq_of_beq hq
          subst e
          refine ⟨by rw [List.map_cons, List.nodup_cons]; exact h, fun q => ?_⟩
          rw [List.map_cons, List.mem_cons, List.map_cons, List.mem_cons]
          constructor
          · rintro (e | e)
            · exact .inl e
            · exact .inr (.inr e)
          · rintro (e | e | e)
            · exact .inl e
            · exact .inl e
            · exact .inr e
    obtain ⟨j1, j2⟩ := ins_keys v K (putM k v E) hp.1
    refine ⟨j1, fun q => ?_⟩
    rw [List.foldl_cons, j2, hp.2, List.mem_cons]
    constructor
    · rintro (h | h | h)
      · exact .inl (.inr h)
      · exact .inl (.inl h)
      · exact .inr h
    · rintro ((h | h) | h)
      · exact .inr (.inl h)
      · exact .inl h
      · exact .inr (.inr h)
theorem ins_vals (v : List Value) (K : List (List Int)) : ∀ p ∈ insM v K, p.2 = v := by
  have key : ∀ (K : List (List Int)) (E : List Ent), (∀ p ∈ E, p.2 = v) → ∀ p ∈ K.foldl (fun E k => putM k v E) E, p.2 = v := by
    intro K
    induction K with
    | nil => intro E h; exact h
    | cons k K ih =>
      intro E h
      rw [List.foldl_cons]
      refine ih _ fun p hp => ?_
      rcases putM_mem hp with hp | rfl
      · exact h p hp
      · rfl
  exact key K [] (by simp)
/-- The order does not count. -/
theorem eqM_ins {K K' : List (List Int)} (h : ∀ k, k ∈ K ↔ k ∈ K') (v : List Value) : eqM (insM v K) (insM v K') = true := by
  obtain ⟨n1, m1⟩ := ins_keys v K [] (by simp)
  obtain ⟨n2, m2⟩ := ins_keys v K' [] (by simp)
  have l1 : (insM v K).length ≤ (insM v K').length := by
    have := nodup_len (l := (insM v K).map (·.1)) (m := (insM v K').map (·.1)) n1 fun q hq => by
      have := (m1 q).1 hq
      refine (m2 q).2 ?_
      rcases this with h1 | h1
      · exact .inl ((h q).1 h1)
      · exact .inr h1
    simpa using this
  have l2 : (insM v K').length ≤ (insM v K).length := by
    have := nodup_len (l := (insM v K').map (·.1)) (m := (insM v K).map (·.1)) n2 fun q hq => by
      have := (m2 q).1 hq
      refine (m1 q).2 ?_
      rcases this with h1 | h1
      · exact .inl ((h q).2 h1)
      · exact .inr h1
    simpa using this
  unfold eqM
  rw [Bool.and_eq_true, List.all_eq_true]
  refine ⟨by rw [show (insM v K).length = (insM v K').length by omega]; simp, fun p hp => ?_⟩
  have hk : p.1 ∈ K := by
    have := (m1 p.1).1 (List.mem_map.2 ⟨p, hp, rfl⟩)
    rcases this with h1 | h1
    · exact h1
    · simp at h1
  rw [lookM_ins, if_pos ((h _).1 hk), ins_vals v K p hp]
  simp
def selA (x : Ac) : Option (List Int) := if x.w = 0 then some x.ka else none
def selS (x : Ac) : Option (List Int) := if x.w = 0 then none else some x.ks
theorem take_snoc {xs : List Ac} {k : Nat} (h : k < xs.length) (f : Ac → Option (List Int)) : (xs.take (k + 1)).filterMap f = (xs.take k).filterMap f ++ (match f (xs.getD k ac0) with | some y => [y] | none => []) := by
  have e : xs.getD k ac0 = xs[k] := by simp [List.getD, List.getElem?_eq_getElem h]
  rw [List.take_add_one, List.filterMap_append, List.getElem?_eq_getElem h, e]
  simp only [Option.toList_some, List.filterMap_cons, List.filterMap_nil]
  cases f xs[k] <;> rfl
/-- The last j of them, the last one first. -/
def backL (xs : List Ac) (j : Nat) : List Ac := (xs.drop (xs.length - j)).reverse
theorem back_snoc {xs : List Ac} {j : Nat} (h : j < xs.length) (f : Ac → Option (List Int)) : (backL xs (j + 1)).filterMap f = (backL xs j).filterMap f ++ (match f (xs.getD (xs.length - 1 - j) ac0) with | some y => [y] | none => []) := by
  have hl : xs.length - 1 - j < xs.length := by omega
  have e : xs.getD (xs.length - 1 - j) ac0 = xs[xs.length - 1 - j] := by simp [List.getD, List.getElem?_eq_getElem hl]
  unfold backL
  rw [show xs.length - (j + 1) = xs.length - 1 - j by omega, List.drop_eq_getElem_cons hl, show xs.length - 1 - j + 1 = xs.length - j by omega, List.reverse_cons, List.filterMap_append, e]
  simp only [List.filterMap_cons, List.filterMap_nil]
  cases f xs[xs.length - 1 - j] <;> rfl
theorem back_all (xs : List Ac) (f : Ac → Option (List Int)) (k : List Int) : k ∈ (xs.take xs.length).filterMap f ↔ k ∈ (backL xs xs.length).filterMap f := by
  unfold backL
  rw [List.take_length, Nat.sub_self, List.drop_zero]
  simp [List.mem_filterMap]
/-- Cold just if there was none. -/
theorem cold_ins (k : List Int) (K : List (List Int)) : ((!(hdB ((lookM k (insM [.bool true] K)).getD [.bool false]))) == decide (hdI ((lookM k (insM [.int .i64 1] K)).getD [.int .i64 0]) > 0)) = false := by
  rw [lookM_ins, lookM_ins]
  by_cases h : k ∈ K
  · simp only [h, if_true, Option.getD_some]; decide
  · simp only [h, if_false, Option.getD_none]; decide
theorem has_put (k : List Int) (E : List Ent) : (!(hdB ((lookM k (putM k [.bool true] E)).getD [.bool false]))) = false := by
  rw [lookM_put, if_pos rfl]; rfl
theorem works_ev : Is (evCall (EW0 noRows) 60 6 [] ⟨[], [true, true, true, true, true, true, true, true, true, true, true, true], fun _ => true⟩ (fun v _ => v = .bool false true)) :=
  ev_eq [(true, true), (true, true), (true, true), (true, true), (true, true), (true, true)] (AV.bool false true) (by kernel_rfl) (allE_cons rfl (allE_cons rfl (allE_cons rfl (allE_cons rfl (allE_cons rfl (allE_cons rfl allE_nil))))))
theorem works_any (w : World) : Calls Try.prog 6 #[] w fun e w' => e = .returned (.bool true) ∧ Below w.heap.size w w' := ev_calls (hEW0 rwOK_no) 60 works_ev.is rfl .nil rfl w
noncomputable def tabW : List (Nat × CtrF) := (6, ctr0 (.bool true true)) :: tabW0
theorem tabW_ok {R : Rws} (hR : RwOK R) : ∀ p ∈ tabW, Good Try.prog R p.1 p.2 := good_cons (p := (_, _)) (ctr0_ok (enters_of Try.func6 (by kernel_rfl) rfl) rfl works_any) (tabW0_ok hR)
noncomputable def EW (R : Rws) : Env := ⟨Try.prog, eqsK Try.prog, R, lookF tabW, fun _ => none, fun _ => false, fun _ => false, fun f => Nat.beq f 27 || Nat.beq f 30 || Nat.beq f 11 || Nat.beq f 8⟩
theorem hEW {R : Rws} (hR : RwOK R) : EnvOK (EW R) := ⟨eqsK_ok, hR, fun f F h => lookF_ok (tabW_ok hR) f F h, fun f F h => (by cases h), rfl⟩
end Go.Proofs.Ytjbleblllmbcbaa
