/- == of what is made of numbers alone: arrays, structs. No program of its own. No condition. -/
import Derived.Test.YtjbleblllmbcbaaEyW
set_option linter.unusedVariables false
set_option linter.unusedSimpArgs false
namespace Go.Proofs.Ytjbleblllmbcbaa
open Go.RowKit
section
variable (P : Program)
def kF (kt : TypeId → Option (List IntKind)) : List Field → Nat → Option (List IntKind)
  | [], _ => some []
  | f :: r, off => if f.name ≠ "_" ∧ f.offset = off then match kt f.type, sizeA P f.type, aggA P f.type with
    | some ks, some s, some _ => if s = ks.length then (kF kt r (off + s)).map (ks ++ ·) else none
    | _, _, _ => none
    else none
/-- The kinds of the numbers that a type is made of. -/
def kT : Nat → TypeId → Option (List IntKind)
  | 0, _ => none
  | n + 1, t => match P.underlying t with
    | some (.int k) => some [k]
    | some (.array len e) => match kT n e, sizeA P e, aggA P e with
      | some ks, some s, some _ => if s = ks.length ∧ 0 < s then some (List.replicate len ks).flatten else none
      | _, _, _ => none
    | some (.struct fs) => if P.stoodInHeld t = false then kF P (kT n) fs.toList 0 else none
    | _ => none
end
variable {P : Program}
def IsAt (P : Program) (t : TypeId) (v : Value) (ks : List IntKind) (xs : List Int) : Prop := match aggA P t with
  | some true => v = .agg (cellsK ks xs).toArray
  | _ => [v] = cellsK ks xs
theorem cellsK_drop (n : Nat) (ks : List IntKind) (xs : List Int) : (cellsK ks xs).drop n = cellsK (ks.drop n) (xs.drop n) := by simp [cellsK, List.drop_zipWith]
theorem cellsK_take (n : Nat) (ks : List IntKind) (xs : List Int) : (cellsK ks xs).take n = cellsK (ks.take n) (xs.take n) := by simp [cellsK, List.take_zipWith]
theorem cellsK_len {ks : List IntKind} {xs : List Int} (h : xs.length = ks.length) : (cellsK ks xs).length = ks.length := by simp [cellsK, h]
theorem part_at {e : TypeId} {z : Bool} {ks : List IntKind} {xs : List Int} {C : List Value} {off : Nat} (ha : aggA P e = some z) (hs : sizeA P e = some ks.length) (hx : xs.length = ks.length) (hc : (C.drop off).take ks.length = cellsK ks xs) (h0 : z = false → ks.length = 1) (w : World) : ∃ v, (part e C.toArray off).run P w = .ok v w ∧ IsAt P e v ks xs := by
  cases z
  · have h1 := h0 rfl
    have hl := cellsK_len hx
    rw [h1] at hl hc
    have hlt : off < C.length := by
      have := congrArg List.length hc
      rw [hl] at this
      simp at this; omega
    refine ⟨C[off], ?_, ?_⟩
    · unfold part
      simp [run_isAggA ha, List.getElem?_eq_getElem hlt]
    · unfold IsAt
      rw [ha]
      show [C[off]] = _
      rw [← hc, List.drop_eq_getElem_cons hlt]; rfl
  · refine ⟨.agg (cellsK ks xs).toArray, ?_, by unfold IsAt; rw [ha]⟩
    unfold part
    have e : C.toArray.extract off (off + ks.length) = (cellsK ks xs).toArray := by
      rw [← hc]
      apply Array.toList_inj.1
      simp [List.take_drop]
    simp only [Sem.run_bind, run_isAggA ha, Result.andThen_ok, if_true, run_sizeA hs, Sem.run_pure, e]
theorem chunk_take {ks : List IntKind} (hs : 0 < ks.length) : ∀ (len i : Nat), i < len → (((List.replicate len ks).flatten).drop (i * ks.length)).take ks.length = ks
  | 0, i, h => by omega
  | len + 1, 0, _ => by simp [List.replicate_succ]
  | len + 1, i + 1, h => by
    rw [List.replicate_succ, List.flatten_cons, Nat.add_mul, Nat.one_mul, Nat.add_comm, List.drop_append, List.drop_of_length_le (by omega), List.nil_append, Nat.add_sub_cancel_left]
    exact chunk_take hs len i (by omega)
theorem all_chunks {s : Nat} (hs : 0 < s) {xs ys : List Int} {len : Nat} (hx : xs.length = len * s) (hy : ys.length = len * s) : (List.range' 0 len).all (fun i => decide ((xs.drop (i * s)).take s = (ys.drop (i * s)).take s)) = decide (xs = ys) := by
  rw [Bool.eq_iff_iff, List.all_eq_true, decide_eq_true_iff]
  constructor
  · intro h
    refine List.ext_getElem? fun j => ?_
    by_cases hj : j < len * s
    · have hd : j / s < len := Nat.div_lt_of_lt_mul (by rw [Nat.mul_comm]; exact hj)
      have h1 := h (j / s) (by simp; exact hd)
      rw [decide_eq_true_iff] at h1
      have hm : j % s < s := Nat.mod_lt _ hs
      have h2 := congrArg (fun l : List Int => l[j % s]?) h1
      simp only [List.getElem?_take, hm, if_true, List.getElem?_drop] at h2
      have e : j / s * s + j % s = j := by rw [Nat.mul_comm]; exact Nat.div_add_mod j s
      rw [e] at h2
      exact h2
    · rw [List.getElem?_eq_none (by omega), List.getElem?_eq_none (by omega)]
  · rintro rfl x _
    simp
theorem one_of {n : Nat} {e : TypeId} {ks : List IntKind} (h : kT P n e = some ks) (ha : aggA P e = some false) : ks.length = 1 := by
  cases n with
  | zero => cases h
  | succ n =>
    unfold kT at h
    unfold aggA at ha
    split at h
    · cases h; rfl
    · rename_i hu; rw [hu] at ha; cases ha
    · rename_i hu; rw [hu] at ha; cases ha
    · cases h
theorem kF_len {kt : TypeId → Option (List IntKind)} : ∀ {fs : List Field} {off : Nat} {ks : List IntKind}, kF P kt fs off = some ks → True
  | _, _, _, _ => trivial
theorem fields_eq {n d : Nat} (IH : ∀ t ks, kT P n t = some ks → ∀ v u xs ys, xs.length = ks.length → ys.length = ks.length → IsAt P t v ks xs → IsAt P t u ks ys → ∀ w, (Op.equalIn d t v u).run P w = .ok (decide (xs = ys)) w) (w : World) {KS : List IntKind} {xs ys : List Int} (hx : xs.length = KS.length) (hy : ys.length = KS.length) :
    ∀ (fs : List Field) (off : Nat) (ks : List IntKind), kF P (kT P n) fs off = some ks → KS.drop off = ks → off ≤ KS.length → (Op.eqFields d (cellsK KS xs).toArray (cellsK KS ys).toArray fs).run P w = .ok (decide (xs.drop off = ys.drop off)) w
  | [], off, ks, h, hk, ho => by
    cases h
    have hl : KS.length ≤ off := List.drop_eq_nil_iff.1 hk
    have e1 : xs.drop off = [] := List.drop_eq_nil_iff.2 (by omega)
    have e2 : ys.drop off = [] := List.drop_eq_nil_iff.2 (by omega)
    simp [Op.eqFields, e1, e2]
  | f :: r, off, ks, h, hk, ho => by
    unfold kF at h
    split at h
    · rename_i hf
      obtain ⟨hn, hfo⟩ := hf
      split at h
      · rename_i k1 s z h1 h2 h3
        split at h
        · rename_i hs
          rw [Option.map_eq_some_iff] at h
          obtain ⟨k2, h4, h5⟩ := h
          subst hs
          have hlen : k1.length ≤ (KS.drop off).length := by rw [hk, ← h5]; simp
          rw [List.length_drop] at hlen
          have htk : (KS.drop off).take k1.length = k1 := by rw [hk, ← h5]; simp
          have hdr : KS.drop (off + k1.length) = k2 := by rw [← List.drop_drop, hk, ← h5]; simp
          have cx : ((cellsK KS xs).drop f.offset).take k1.length = cellsK k1 ((xs.drop off).take k1.length) := by rw [hfo, cellsK_drop, cellsK_take, htk]
          have cy : ((cellsK KS ys).drop f.offset).take k1.length = cellsK k1 ((ys.drop off).take k1.length) := by rw [hfo, cellsK_drop, cellsK_take, htk]
          have lx : ((xs.drop off).take k1.length).length = k1.length := by simp; omega
          have ly : ((ys.drop off).take k1.length).length = k1.length := by simp; omega
          have h0 : z = false → k1.length = 1 := fun e => one_of h1 (by rw [h3, e])
          obtain ⟨v, v1, v2⟩ := part_at (P := P) h3 h2 lx cx h0 w
          obtain ⟨u, u1, u2⟩ := part_at (P := P) h3 h2 ly cy h0 w
          have he := IH _ _ h1 v u _ _ lx ly v2 u2 w
          have ih := fields_eq IH w hx hy r (off + k1.length) k2 h4 hdr (by omega)
          simp only [Op.eqFields, hn, ne_eq, not_false_eq_true, if_true, Sem.run_bind, v1, u1, he, Result.andThen_ok]
          have hsp : ∀ l : List Int, l.drop off = (l.drop off).take k1.length ++ l.drop (off + k1.length) := fun l => by rw [← List.drop_drop, List.take_append_drop]
          by_cases hq : (xs.drop off).take k1.length = (ys.drop off).take k1.length
          · have e3 : (xs.drop off = ys.drop off) ↔ (xs.drop (off + k1.length) = ys.drop (off + k1.length)) := by
              rw [hsp xs, hsp ys, hq]
              simp
            simp only [hq, decide_true, Bool.not_true, Bool.false_eq_true, if_false, e3]
            exact ih
          · have e3 : ¬ xs.drop off = ys.drop off := fun e => hq (by rw [e])
            simp [hq, e3]
        · cases h
      · cases h
    · cases h
theorem eqK_sound : ∀ (n : Nat) (t : TypeId) (ks : List IntKind), kT P n t = some ks → ∀ d, n ≤ d → ∀ v u xs ys, xs.length = ks.length → ys.length = ks.length → IsAt P t v ks xs → IsAt P t u ks ys → ∀ w, (Op.equalIn d t v u).run P w = .ok (decide (xs = ys)) w
  | 0, _, _, h => by cases h
  | n + 1, t, ks, h => fun d hd v u xs ys hx hy hv hu w => by
    obtain ⟨d, rfl⟩ : ∃ d', d = d' + 1 := ⟨d - 1, by omega⟩
    unfold kT at h
    split at h
    · rename_i k hk
      cases h
      have ha : aggA P t = some false := by unfold aggA; rw [hk]
      unfold IsAt at hv hu
      rw [ha] at hv hu
      rcases xs with _ | ⟨x, _ | _⟩ <;> simp at hx
      rcases ys with _ | ⟨y, _ | _⟩ <;> simp at hy
      simp only [cellsK, List.zipWith_cons_cons, List.zipWith_nil_right, List.cons.injEq, and_true] at hv hu
      subst hv; subst hu
      rw [run_equalIn_int w d t k k x y hk]
      congr 1
      rw [Bool.eq_iff_iff]; simp
    · rename_i len e hk
      split at h
      · rename_i k1 s z h1 h2 h3
        split at h
        · rename_i hs
          obtain ⟨hs, hs0⟩ := hs
          cases h
          subst hs
          have ha : aggA P t = some true := by unfold aggA; rw [hk]
          unfold IsAt at hv hu
          rw [ha] at hv hu
          subst hv; subst hu
          have hkl : ((List.replicate len k1).flatten).length = len * k1.length := by simp
          rw [hkl] at hx hy
          have h0 : z = false → k1.length = 1 := fun e => one_of h1 (by rw [h3, e])
          rw [Op.equalIn]
          simp only [Sem.run_bind, run_underlying hk, run_sizeA h2, Result.andThen_ok]
          simp only [Std.Legacy.Range.forIn_eq_forIn_range', Std.Legacy.Range.size, Nat.sub_zero, Nat.add_sub_cancel, Nat.div_one]
          rw [eq_loop (len := len) (same := fun i => decide ((xs.drop (i * k1.length)).take k1.length = (ys.drop (i * k1.length)).take k1.length)) (fun i s W hi => by
            have hil : i * k1.length + k1.length ≤ len * k1.length := by
              have := Nat.mul_le_mul_right k1.length (show i + 1 ≤ len by omega)
              rw [Nat.add_mul, Nat.one_mul] at this; exact this
            have cx : ((cellsK ((List.replicate len k1).flatten) xs).drop (i * k1.length)).take k1.length = cellsK k1 ((xs.drop (i * k1.length)).take k1.length) := by rw [cellsK_drop, cellsK_take, chunk_take hs0 len i hi]
            have cy : ((cellsK ((List.replicate len k1).flatten) ys).drop (i * k1.length)).take k1.length = cellsK k1 ((ys.drop (i * k1.length)).take k1.length) := by rw [cellsK_drop, cellsK_take, chunk_take hs0 len i hi]
            have lx : ((xs.drop (i * k1.length)).take k1.length).length = k1.length := by simp; omega
            have ly : ((ys.drop (i * k1.length)).take k1.length).length = k1.length := by simp; omega
            obtain ⟨v, v1, v2⟩ := part_at (P := P) h3 h2 lx cx h0 W
            obtain ⟨u, u1, u2⟩ := part_at (P := P) h3 h2 ly cy h0 W
            have he := eqK_sound n e k1 h1 d (by omega) v u _ _ lx ly v2 u2 W
            simp only [Sem.run_bind, v1, u1, he, Result.andThen_ok]
            cases decide ((xs.drop (i * k1.length)).take k1.length = (ys.drop (i * k1.length)).take k1.length) <;> simp) w len 0 (by omega)]
          simp only [Result.andThen_ok]
          rw [all_chunks hs0 hx hy]
          by_cases h : xs = ys
          · subst h; simp
          · simp [h]
        · cases h
      · cases h
    · rename_i fs hk
      split at h
      · rename_i hst
        have ha : aggA P t = some true := by unfold aggA; rw [hk]
        unfold IsAt at hv hu
        rw [ha] at hv hu
        subst hv; subst hu
        have hfo : P.fieldsOf t = fs := by unfold Program.fieldsOf; rw [hk]
        have hk2 : P.underlying t = some (.struct (P.fieldsOf t)) := by rw [hfo]; exact hk
        rw [run_equalIn_struct w d t _ _ hk2 hst, hfo]
        have := fields_eq (P := P) (n := n) (d := d) (fun t ks h v u xs ys hx hy hv hu w => eqK_sound n t ks h d (by omega) v u xs ys hx hy hv hu w) w hx hy fs.toList 0 ks h (by simp) (Nat.zero_le _)
        simpa using this
      · cases h
    · cases h
/-- All of them at once. -/
def eqsK (P : Program) (t : TypeId) : Option (List IntKind) := match aggA P t with
  | some true => kT P 9 t
  | _ => none
theorem eqsK_ok : ∀ t ks, eqsK P t = some ks → EqT P t ks := fun t ks h xs ys hx hy w => by
  unfold eqsK at h
  split at h
  · rename_i ha
    exact eqK_sound 9 t ks h 10000 (by decide) _ _ xs ys hx hy (by unfold IsAt; rw [ha]) (by unfold IsAt; rw [ha]) w
  · cases h
end Go.Proofs.Ytjbleblllmbcbaa
