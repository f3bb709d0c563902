/- Operations on maps do what the machine does. No program of its own. No condition. -/
import Derived.Test.YtjbleblllmbcbaaEy5
import Derived.MapKept
import Derived.RangeFuncRecord
set_option linter.unusedVariables false
set_option linter.unusedSimpArgs false
namespace Go.Proofs.Ytjbleblllmbcbaa
open Go.RowKit
variable {R : Rws}
section
variable {P : Program} {ρ : Nums} {f : Operand → Option AV} {g : Operand → Value} {H : Mem} {Hr : List RBlk} {eqs : TypeId → Option (List IntKind)}

theorem vals_ofCells : ∀ l : List Value, AV.vals? (AV.ofCells l) = some l
  | [] => rfl
  | v :: r => by
    have h1 : (AV.ofCell v).val? = some v := by cases v <;> rfl
    simp [AV.ofCells, AV.vals?, h1, vals_ofCells r]
theorem keyC_sound {k : IntKind} {a : AV} {n : Int} {V : Value} (h : keyC k a = some n) (hr : Rel R ρ a V) : V = .int k n := by
  unfold keyC at h
  split at h
  · rename_i k' l m
    split at h
    · rename_i e; cases h; cases hr; rw [e]
    · cases h
  · rename_i k' a
    split at h
    · rename_i e; subst e; cases h; cases hr; rfl
    · cases h
  · rename_i k' m
    split at h
    · rename_i e; cases h; cases hr; rw [e]
    · cases h
  · cases h
theorem keyN_sound : ∀ {ks : List IntKind} {cs : List AV} {ns : List Int} {Cs : List Value}, keyN ks cs = some ns → RelL R ρ cs Cs → Cs = cellsK ks ns ∧ ns.length = ks.length
  | [], [], ns, _, h, hr => by cases hr; cases h; exact ⟨rfl, rfl⟩
  | [], _ :: _, _, _, h, _ => by cases h
  | _ :: _, [], _, _, h, _ => by cases h
  | k :: ks, a :: r, ns, _, h, hr => by
    cases hr with | cons h1 h2 =>
    unfold keyN at h
    split at h
    · rename_i e1 e2
      cases h
      obtain ⟨e3, e4⟩ := keyN_sound e2 h2
      rw [keyC_sound e1 h1, e3]
      exact ⟨rfl, by simp [e4]⟩
    · cases h
theorem eqKs_eq : ∀ {a b : List IntKind}, eqKs a b = true → a = b
  | [], [], _ => rfl
  | [], _ :: _, h => by cases h
  | _ :: _, [], h => by cases h
  | a :: r, b :: s, h => by
    unfold eqKs at h
    rw [Bool.and_eq_true] at h
    split at h
    · rename_i e; rw [e, eqKs_eq h.2]
    · cases h.1
theorem eqCK_eq {a b : CK} (h : eqCK a b = true) : a = b := by
  cases a <;> cases b <;> simp [eqCK] at h <;> first | rfl | rw [h]
theorem eqCs_eq : ∀ {a b : List CK}, eqCs a b = true → a = b
  | [], [], _ => rfl
  | [], _ :: _, h => by cases h
  | _ :: _, [], h => by cases h
  | a :: r, b :: s, h => by
    unfold eqCs at h
    rw [Bool.and_eq_true] at h
    rw [eqCK_eq h.1, eqCs_eq h.2]

/-- What is asked of a key's value. -/
def Formed (P : Program) (t : TypeId) (v : Value) : Prop := aggA P t = some true → ∃ cs : Array Value, v = .agg cs ∧ sizeA P t = some cs.size
theorem part_formed {e : TypeId} {s off : Nat} {z : Bool} {cs : Array Value} (hs : sizeA P e = some s) (ha : aggA P e = some z) (hs0 : 0 < s) (hle : off + s ≤ cs.size) (w : World) : ∃ a, (part e cs off).run P w = .ok a w ∧ Formed P e a := by
  cases z
  · refine ⟨cs[off]'(by omega), ?_, fun h => by rw [ha] at h; cases h⟩
    unfold part
    have hc : cs[off]? = some (cs[off]'(by omega)) := Array.getElem?_eq_getElem _
    simp [run_isAggA ha, hc]
  · refine ⟨.agg (cs.extract off (off + s)), ?_, fun _ => ⟨_, rfl, by rw [hs]; congr 1; simp; omega⟩⟩
    unfold part
    simp [run_isAggA ha, run_sizeA hs]
theorem run_checkKeyA (em : Bool) : ∀ (n : Nat) (t : TypeId), keyT P n t = true → ∀ d, n ≤ d → ∀ (v : Value), Formed P t v → ∀ w, (Instr.checkKey em d t v).run P w = .ok () w
  | 0, _, h => by cases h
  | n + 1, t, h => fun d hd v hv w => by
    obtain ⟨d, rfl⟩ : ∃ d', d = d' + 1 := ⟨d - 1, by omega⟩
    unfold keyT at h
    split at h
    · rename_i k hu
      unfold Instr.checkKey
      simp [run_underlying hu]
    · rename_i m e hu
      have hag : aggA P t = some true := by unfold aggA; rw [hu]
      obtain ⟨cs, rfl, hsz⟩ := hv hag
      rw [Bool.and_eq_true] at h
      split at h
      · rename_i s z a hs hz ha
        rw [hsz] at hz; cases hz
        obtain ⟨h1, h2⟩ := h
        rw [Bool.and_eq_true] at h2
        have hle := Nat.le_of_ble_eq_true h2.1
        have h0 : 0 < s := by have := h2.2; rwa [Nat.blt_eq] at this
        rw [Instr.checkKey]
        simp only [Sem.run_bind, run_underlying hu, Result.andThen_ok]
        simp only [Std.Legacy.Range.forIn_eq_forIn_range', Std.Legacy.Range.size, Nat.sub_zero, Nat.add_one_sub_one, Nat.div_one]
        have hin : ∀ j ∈ List.range' 0 m, j < m := fun j hj => by simpa using hj
        generalize List.range' 0 m = is at hin
        induction is with
        | nil => simp
        | cons j is ih =>
          have hj := hin j (by simp)
          have hjs : j * s + s ≤ cs.size := by
            have : (j + 1) * s ≤ m * s := Nat.mul_le_mul_right _ hj
            rw [Nat.add_mul, Nat.one_mul] at this; omega
          obtain ⟨b, p1, f1⟩ := part_formed (P := P) hs ha h0 hjs w
          have p2 := run_checkKeyA em n e h1 d (by omega) b f1 w
          simp only [List.forIn_cons, Sem.run_bind, run_sizeA hs, Result.andThen_ok, p1, p2, Sem.run_pure]
          exact ih (fun y hy => hin y (by simp [hy]))
      · exact absurd h.2 (by simp)
    · rename_i fs hu
      have hag : aggA P t = some true := by unfold aggA; rw [hu]
      obtain ⟨cs, rfl, hsz⟩ := hv hag
      rw [Instr.checkKey]
      simp only [Sem.run_bind, run_underlying hu, Result.andThen_ok]
      rw [← Array.forIn_toList]
      generalize fs.toList = L at h
      induction L with
      | nil => simp
      | cons f L ih =>
        rw [List.all_cons, Bool.and_eq_true] at h
        obtain ⟨h1, h3⟩ := h
        rw [Bool.and_eq_true] at h1
        obtain ⟨h1, h2⟩ := h1
        split at h2
        · rename_i s z a hs hz ha
          rw [hsz] at hz; cases hz
          rw [Bool.and_eq_true] at h2
          have hle := Nat.le_of_ble_eq_true h2.1
          have h0 : 0 < s := by have := h2.2; rwa [Nat.blt_eq] at this
          obtain ⟨b, p1, f1⟩ := part_formed (P := P) hs ha h0 hle w
          have p2 := run_checkKeyA em n f.type h1 d (by omega) b f1 w
          have p3 := ih h3
          by_cases hn : f.name = "_"
          · simp only [List.forIn_cons, Sem.run_bind, hn, ne_eq, not_true_eq_false, if_false, Result.andThen_ok, Sem.run_pure]
            exact p3
          · simp only [List.forIn_cons, Sem.run_bind, hn, ne_eq, not_false_eq_true, if_true, Result.andThen_ok, p1, p2, Sem.run_pure]
            exact p3
        · cases h2
    · cases h

structure MapT (P : Program) (k e : TypeId) (ks : List IntKind) (g : Bool) (cs : List CK) (zv : List Value) : Prop where
  eq : EqT P k ks
  size : sizeA P k = some ks.length
  agg : aggA P k = some true
  chk : ∀ em (v : Value), Formed P k v → ∀ w, (Instr.checkKey em 10000 k v).run P w = .ok () w
  zero : ∀ w, (zeroValue e).run P w = .ok (valV g zv) w
  wf : wfL cs zv = true
  one : g = true ∨ ∃ c, cs = [c]
theorem mapT_spec (he : ∀ t ks, eqs t = some ks → EqT P t ks) {k e : TypeId} {ks : List IntKind} {gg : Bool} {cs : List CK} {zv : List Value} (h : mapT P eqs k e = some (ks, gg, cs, zv)) : MapT P k e ks gg cs zv := by
  unfold mapT at h
  split at h
  · rename_i ks' z g' zv' h1 h2 h3 h4
    cases hb : (keyT P 9 k && Nat.beq z ks'.length) <;> simp only [hb, cond_true, cond_false] at h
    · cases h
    rw [Bool.and_eq_true] at hb
    split at h
    · rename_i cs' h5
      cases hc : (fitL cs' (AV.ofCells zv') && (g' || Nat.beq cs'.length 1)) <;> simp only [hc, cond_true, cond_false] at h
      · cases h
      cases h
      rw [Bool.and_eq_true, Bool.or_eq_true] at hc
      have hz := Nat.eq_of_beq_eq_true hb.2
      refine ⟨he _ _ h1, by rw [h2, hz], h3, fun em v hv w => run_checkKeyA em 9 k hb.1 10000 (by decide) v hv w, fun w => ?_, fitL_wf hc.1 (vals_ofCells _), hc.2.imp id fun hl => ?_⟩
      · unfold zeroV at h4
        rcases hi : P.info? e with _ | i
        · rw [hi] at h4; cases h4
        rw [hi] at h4
        rcases hz : i.zero with _ | v
        · simp [hz] at h4
        simp only [Option.bind_some, hz] at h4
        have hrun : (zeroValue e).run P w = .ok v w := by simp [zeroValue, typeInfo, hi, hz]
        rw [hrun]
        cases v <;> simp only [Option.some.injEq, Prod.mk.injEq] at h4 <;> obtain ⟨rfl, rfl⟩ := h4 <;> simp [valV]
      · have hl := Nat.eq_of_beq_eq_true hl
        rcases cs with _ | ⟨c, _ | ⟨_, _⟩⟩
        · cases hl
        · exact ⟨c, rfl⟩
        · simp at hl
    · cases h
  · cases h
theorem formed_key {k : TypeId} {ks : List IntKind} {ns : List Int} (hs : sizeA P k = some ks.length) (hl : ns.length = ks.length) : Formed P k (keyV ks ns) := fun _ => ⟨_, rfl, by rw [hs]; simp [cellsK, hl]⟩
theorem sameBits_self {ks : List IntKind} {ns : List Int} (n : Nat) : Instr.sameBits (n + 1) (keyV ks ns) (keyV ks ns) = true := by
  unfold keyV Instr.sameBits
  simp only [beq_self_eq_true, Bool.true_and]
  rw [List.all_eq_true]
  rintro ⟨x, y⟩ hxy
  have hx := List.of_mem_zip hxy
  have hxy' : x = y := by
    obtain ⟨i, hi, he⟩ := List.mem_iff_getElem.1 hxy
    rw [List.getElem_zip] at he
    simp only [Prod.mk.injEq] at he
    rw [← he.1, ← he.2]
  subst hxy'
  have hint : ∃ k n, x = .int k n := by
    have h1 := hx.1
    simp only [cellsK] at h1
    obtain ⟨i, hi, he⟩ := List.mem_iff_getElem.1 h1
    rw [List.getElem_zipWith] at he
    exact ⟨_, _, he.symm⟩
  obtain ⟨k, n, rfl⟩ := hint
  cases n <;> cases n <;> simp [Instr.sameBits]
/-- Where a key stands, and what it has. -/
def idxM (ns : List Int) : List (List Int × List Value) → Option (Nat × List Value)
  | [] => none
  | (k, v) :: r => bif k == ns then some (0, v) else (idxM ns r).map fun p => (p.1 + 1, p.2)
theorem idxM_look (ns : List Int) : ∀ E, (idxM ns E).map (·.2) = lookM ns E
  | [] => rfl
  | (k, v) :: r => by
    unfold idxM lookM
    cases hb : (k == ns) <;> simp only [cond_true, cond_false]
    · rw [← idxM_look ns r, Option.map_map]; rfl
    · rfl
theorem idxM_at {ns : List Int} {i : Nat} {v : List Value} : ∀ {E : List (List Int × List Value)}, idxM ns E = some (i, v) → E[i]? = some (ns, v) ∧ ∀ u, putM ns u E = E.set i (ns, u)
  | [], h => by cases h
  | (k, x) :: r, h => by
    unfold idxM at h
    cases hb : (k == ns) <;> simp only [hb, cond_true, cond_false] at h
    · rw [Option.map_eq_some_iff] at h
      obtain ⟨⟨j, y⟩, h1, h2⟩ := h
      cases h2
      obtain ⟨h3, h4⟩ := idxM_at h1
      exact ⟨by simpa using h3, fun u => by simp [putM, hb, h4 u]⟩
    · cases h
      have := eq_of_beq hb
      subst this
      exact ⟨rfl, fun u => by simp [putM]⟩
theorem idxM_none {ns : List Int} : ∀ {E : List (List Int × List Value)}, idxM ns E = none → (∀ p ∈ E, p.1 ≠ ns) ∧ ∀ u, putM ns u E = E ++ [(ns, u)]
  | [], _ => ⟨by simp, fun u => rfl⟩
  | (k, x) :: r, h => by
    unfold idxM at h
    cases hb : (k == ns) <;> simp only [hb, cond_true, cond_false] at h
    · rw [Option.map_eq_none_iff] at h
      obtain ⟨h3, h4⟩ := idxM_none h
      have hne : k ≠ ns := fun e => by rw [e] at hb; simp at hb
      exact ⟨fun p hp => by
        rcases List.mem_cons.1 hp with rfl | hp
        · exact hne
        · exact h3 p hp, fun u => by simp [putM, hb, h4 u]⟩
    · cases h
theorem run_asking {k : TypeId} {ks : List IntKind} (heq : EqT P k ks) {ns : List Int} (hn : ns.length = ks.length) {gg : Bool} (w : World) : ∀ (es : List MapEntry) (E : List (List Int × List Value)) (i : Nat), (∀ p ∈ E, p.1.length = ks.length) → es.map (fun e => (e.key, e.val)) = E.map (fun p => (keyV ks p.1, valV gg p.2)) →
    (Instr.findAsking k (keyV ks ns) es i).run P w = .ok ((idxM ns E).map fun p => (i + p.1, valV gg p.2)) w
  | [], [], i, _, _ => by simp [Instr.findAsking, idxM]
  | [], _ :: _, i, _, h => by cases h
  | _ :: _, [], i, _, h => by cases h
  | e :: es, (q, v) :: E, i, hl, h => by
    simp only [List.map_cons, List.cons.injEq, Prod.mk.injEq] at h
    obtain ⟨⟨h1, h2⟩, h3⟩ := h
    have hq := hl (q, v) (List.mem_cons_self ..)
    have ih := run_asking heq hn w es E (i + 1) (fun p hp => hl p (List.mem_cons_of_mem _ hp)) h3
    have he := heq ns q hn hq w
    unfold Instr.findAsking
    rw [Sem.run_bind, h1]
    unfold keyV at he ⊢
    rw [he, Result.andThen_ok]
    unfold idxM
    by_cases hd : ns = q
    · subst hd
      simp [h2]
    · have hb : (q == ns) = false := by simpa using fun e => hd e.symm
      have hr : (Instr.findAsking k (.agg (cellsK ks ns).toArray) es (i + 1)).run P w = _ := ih
      simp only [hd, decide_false, Bool.false_eq_true, if_false, hr, hb, cond_false, Option.map_map]
      congr 1
      cases idxM ns E with
      | none => rfl
      | some p => simp [Nat.add_assoc, Nat.add_comm 1 p.1]
theorem run_find {k : TypeId} {ks : List IntKind} (heq : EqT P k ks) (hag : aggA P k = some true) {ns : List Int} (hn : ns.length = ks.length) {gg : Bool} (w : World) (es : List MapEntry) (E : List (List Int × List Value)) (hl : ∀ p ∈ E, p.1.length = ks.length) (h : es.map (fun e => (e.key, e.val)) = E.map (fun p => (keyV ks p.1, valV gg p.2))) :
    (Instr.findKey k (keyV ks ns) es).run P w = .ok ((idxM ns E).map fun p => (p.1, valV gg p.2)) w := by
  have ha := run_asking heq hn (gg := gg) w es E 0 hl h
  simp only [Nat.zero_add] at ha
  unfold aggA at hag
  cases es with
  | nil =>
    cases E with
    | nil =>
      split at hag
      · rename_i d hu; simp [Instr.findKey, run_underlying hu, Instr.findNow, idxM]
      · rename_i d hu; simp [Instr.findKey, run_underlying hu, Instr.findNow, idxM]
      · rename_i d h1 h2 hu; cases hag
      · cases hag
    | cons _ _ => cases h
  | cons e es =>
    have hnow : ∀ d, (∃ fs, d = TypeDesc.struct fs) ∨ (∃ n t, d = TypeDesc.array n t) → Instr.findNow d (keyV ks ns) (e :: es) 0 = none := by
      rintro d (⟨fs, rfl⟩ | ⟨n, t, rfl⟩) <;> simp [Instr.findNow, Instr.sameNow]
    split at hag
    · rename_i d hu; simp [Instr.findKey, run_underlying hu, hnow _ (.inl ⟨_, rfl⟩), ha]
    · rename_i d d2 hu; simp [Instr.findKey, run_underlying hu, hnow _ (.inr ⟨_, _, rfl⟩), ha]
    · rename_i d h1 h2 hu; cases hag
    · cases hag
theorem run_lookupA {t k e : TypeId} {ks : List IntKind} {gg : Bool} {cs : List CK} {zv : List Value} (hT : MapT P k e ks gg cs zv) (hu : P.underlying t = some (.map k e)) {b : Nat} {es : Array MapEntry} {clock : Nat} {E : List (List Int × List Value)} (hM : MapOK ⟨ks, gg, cs, E⟩ es clock) {w : World} (hb : w.heap[b]? = some (.map es clock)) {ns : List Int} (hn : ns.length = ks.length) (ok : Bool) :
    (Instr.lookup t (.map (some b)) (keyV ks ns) ok).run P w = .ok (if ok then .tuple #[valV gg ((lookM ns E).getD zv), .bool (lookM ns E).isSome] else valV gg ((lookM ns E).getD zv)) w := by
  have hf := run_find hT.eq hT.agg hn w es.toList E hM.keys hM.ent
  have hc := hT.chk es.isEmpty (keyV ks ns) (formed_key hT.size hn) w
  have hl := idxM_look ns E
  simp only [Instr.lookup, Sem.run_bind, run_underlying hu, Result.andThen_ok, MapKept.run_getObj_map hb, Sem.run_pure, hc, hf]
  rcases hi : idxM ns E with _ | ⟨i, v⟩
  · rw [hi] at hl
    have hl : lookM ns E = none := hl.symm
    simp only [Option.map_none, hl, Sem.run_bind, hT.zero, Result.andThen_ok, Sem.run_pure, Option.getD_none, Option.isSome_none]
  · rw [hi] at hl
    have hl : lookM ns E = some v := hl.symm
    simp only [Option.map_some, hl, Sem.run_bind, Sem.run_pure, Result.andThen_ok, Option.getD_some, Option.isSome_some]
theorem mapOK_put {m : MapI} {es : Array MapEntry} {clock : Nat} (h : MapOK m es clock) {ns : List Int} {vs : List Value} (hn : ns.length = m.ks.length) (hv : wfL m.cs vs = true) {t k e : TypeId} {zv : List Value} (hT : MapT P k e m.ks m.g m.cs zv) (hu : P.underlying t = some (.map k e)) {b : Nat} :
    ∃ es' clock', MapOK ⟨m.ks, m.g, m.cs, putM ns vs m.E⟩ es' clock' ∧ ∀ w, w.heap[b]? = some (.map es clock) → (Instr.mapUpdate t (.map (some b)) (keyV m.ks ns) (valV m.g vs)).run P w = .ok () (w.putObj b (.map es' clock')) := by
  obtain ⟨ks, gg, cs, E⟩ := m
  have hlen : es.toList.length = E.length := by have := congrArg List.length h.ent; simpa using this
  rcases hi : idxM ns E with _ | ⟨i, v⟩
  · obtain ⟨h1, h2⟩ := idxM_none hi
    refine ⟨es.push { key := keyV ks ns, val := valV gg vs, born := clock }, clock + 1, ⟨?_, ?_, ?_, ?_, h.one, ?_, ?_⟩, fun w hb => ?_⟩
    · show _ = List.map _ (putM ns vs E)
      rw [h2, List.map_append, Array.toList_push, List.map_append, h.ent]; rfl
    · intro p hp
      rcases putM_mem hp with hp | rfl
      · exact h.keys p hp
      · exact hn
    · exact putM_nodup h.nodup
    · intro p hp
      rcases putM_mem hp with hp | rfl
      · exact h.vals p hp
      · exact hv
    · rw [Array.toList_push]
      exact List.pairwise_append.2 ⟨h.born, List.pairwise_singleton .., fun x hx y hy => by rw [List.mem_singleton.1 hy]; exact h.clock x hx⟩
    · intro x hx
      rw [Array.toList_push] at hx
      rcases List.mem_append.1 hx with hx | hx
      · have := h.clock x hx; omega
      · rw [List.mem_singleton.1 hx]; exact Nat.lt_succ_self _
    · have hf := run_find hT.eq hT.agg hn (gg := gg) w es.toList E h.keys h.ent
      have hc := hT.chk false (keyV ks ns) (formed_key hT.size hn) w
      simp [Instr.mapUpdate, run_underlying hu, MapKept.run_getObj_map hb, hc, hf, hi, MapKept.run_setObj_map _ hb, World.putObj]
  · obtain ⟨h1, h2⟩ := idxM_at hi
    have hlt : i < E.length := (List.getElem?_eq_some_iff.1 h1).1
    have hie : i < es.size := by rw [← Array.length_toList]; omega
    have hkey : (es[i]).key = keyV ks ns := by
      have := congrArg (fun l : List (Value × Value) => l[i]?) h.ent
      simp only [List.getElem?_map, h1, Option.map_some, Array.getElem?_toList, Array.getElem?_eq_getElem hie, Option.some.injEq, Prod.mk.injEq] at this
      exact this.1
    have htl : (es.modify i fun e => { e with key := keyV ks ns, val := valV gg vs }).toList = es.toList.set i { es[i] with key := keyV ks ns, val := valV gg vs } := by
      apply List.ext_getElem?
      intro j
      rw [Array.getElem?_toList, Array.getElem?_modify, List.getElem?_set]
      by_cases e : i = j
      · subst e; simp [hie]
      · simp [e]
    refine ⟨es.modify i fun e => { e with key := keyV ks ns, val := valV gg vs }, clock, ⟨?_, ?_, ?_, ?_, h.one, ?_, ?_⟩, fun w hb => ?_⟩
    · show _ = List.map _ (putM ns vs E)
      rw [h2, htl, List.map_set, List.map_set, h.ent]
    · intro p hp
      rcases putM_mem hp with hp | rfl
      · exact h.keys p hp
      · exact hn
    · exact putM_nodup h.nodup
    · intro p hp
      rcases putM_mem hp with hp | rfl
      · exact h.vals p hp
      · exact hv
    · rw [htl]
      have hb := h.born
      have : (es.toList.map (·.born)).Pairwise (· < ·) := List.pairwise_map.2 hb
      have e : (es.toList.set i { es[i] with key := keyV ks ns, val := valV gg vs }).map (·.born) = es.toList.map (·.born) := by
        rw [List.map_set]
        apply List.ext_getElem?
        intro j
        rw [List.getElem?_set]
        split
        · rename_i e; subst e; simp [hie]
        · rfl
      exact List.pairwise_map.1 (by rw [e]; exact this)
    · intro x hx
      rw [htl] at hx
      rcases List.mem_or_eq_of_mem_set hx with hx | rfl
      · exact h.clock x hx
      · exact h.clock es[i] (by simp)
    · have hf := run_find hT.eq hT.agg hn (gg := gg) w es.toList E h.keys h.ent
      have hc := hT.chk false (keyV ks ns) (formed_key hT.size hn) w
      have hk : ∀ w, (Instr.keyThatStays (((es[i]?).map (·.key)).getD (keyV ks ns)) (keyV ks ns)).run P w = .ok (keyV ks ns) w := fun w => by
        rw [Array.getElem?_eq_getElem hie]
        simp only [Option.map_some, Option.getD_some, hkey]
        unfold Instr.keyThatStays
        rw [if_pos (sameBits_self 9999)]; rfl
      simp only [Instr.mapUpdate, Sem.run_bind, run_underlying hu, Result.andThen_ok, MapKept.run_getObj_map hb, hc, hf, hi, Option.map_some, hk, MapKept.run_setObj_map _ hb, World.putObj]
/-! ### The operations. -/
theorem makeM_sound (he : ∀ t ks, eqs t = some ks → EqT P t ks) {t : TypeId} {r : Res} (h : makeMA P eqs t = some r) : ∃ m, r = .newM m ∧ MapOK m #[] 0 ∧ ∀ w, (Instr.makeMap t none).run P w = .ok (.map (some w.heap.size)) (w.alloc (.map #[] 0)) := by
  unfold makeMA at h
  split at h
  · rename_i k e hu
    split at h
    · rename_i ks gg cs zv hT
      cases h
      have hS := mapT_spec he hT
      exact ⟨_, rfl, ⟨rfl, by simp, List.Pairwise.nil, by simp, hS.one, by simp, by simp⟩, fun w => by simp [Instr.makeMap]⟩
    · cases h
  · cases h
theorem rel_mp {l : Nat} {V : Value} (h : Rel R ρ (.mp l) V) : ∃ q : Num, ρ[l]? = some q ∧ V = .map (some q.b) := by
  cases h with | mp h => exact ⟨_, h, rfl⟩
theorem RelB.getM (hB : RelB R ρ H Hr) {l : Nat} {m : MapI} (hl : H[l]? = some (.map m)) : ∃ b s es clock, Hr[l]? = some ⟨b, s, .map es clock⟩ ∧ MapOK m es clock := by
  obtain ⟨p, h1, h2⟩ := hB.at hl
  cases h2 with | map h2 => exact ⟨_, _, _, _, h1, h2⟩
theorem lookup_sound (he : ∀ t ks, eqs t = some ks → EqT P t ks) (hB : RelB R ρ H Hr) (hρ : ∀ (l : Nat) (p : RBlk), Hr[l]? = some p → ρ[l]? = some p.num) {t : TypeId} {ok : Bool} {x k v : AV} {X K : Value} (h : lookupA P eqs H t ok x k = some v) (hx : Rel R ρ x X) (hk : Rel R ρ k K) : ∃ V, Rel R ρ v V ∧ ∀ w, OwnM H Hr w → (Instr.lookup t X K ok).run P w = .ok V w := by
  unfold lookupA at h
  split at h
  · rename_i l kc
    split at h
    · rename_i kt et m hu hl
      split at h
      · rename_i ks gg cs zv hT
        cases hb : (eqKs ks m.ks && gg == m.g && eqCs cs m.cs) <;> simp only [hb, cond_true, cond_false] at h
        · cases h
        simp only [Bool.and_eq_true, beq_iff_eq] at hb
        obtain ⟨⟨b1, b2⟩, b3⟩ := hb
        have b1 := eqKs_eq b1
        have b3 := eqCs_eq b3
        subst b1; subst b2; subst b3
        split at h
        · rename_i ns hns
          have hS := mapT_spec he hT
          obtain ⟨q, hq, rfl⟩ := rel_mp hx
          obtain ⟨b, s, es, clock, e1, e2⟩ := hB.getM hl
          rw [hρ _ _ e1] at hq; cases hq
          cases hk with | agg hk =>
          obtain ⟨rfl, hn⟩ := keyN_sound hns hk
          have hwf : wfL m.cs ((lookM ns m.E).getD zv) = true := by
            rcases hle : lookM ns m.E with _ | v'
            · exact hS.wf
            · exact e2.vals _ (lookM_mem hle)
          refine ⟨_, ?_, fun w hO => run_lookupA hS hu (E := m.E) (by exact e2) ((hO l _ _ hl e1).2 rfl) hn ok⟩
          cases ok
          · cases h; exact dec_rel hwf e2.one
          · cases h; exact .tuple (vs := [_, _]) (.cons (dec_rel hwf e2.one) (.cons .bool .nil))
        · cases h
      · cases h
    · cases h
  · cases h
theorem cells_valV {v : AV} {V : Value} {vc : List AV} {vs : List Value} (hv : v.cells = some vc) (hvs : AV.vals? vc = some vs) (h : Rel R ρ v V) : V = valV (isAggA v) vs := by
  have hc := (h.cells hv).vals hvs
  cases h <;> simp only [AV.cells] at hv <;> try (cases hv; done)
  case agg => simp [isAggA, valV, ← hc, Value.cells]
  case raw => cases V <;> first | (cases hv; done) | (subst hc; rfl)
  all_goals (subst hc; rfl)
theorem update_sound (he : ∀ t ks, eqs t = some ks → EqT P t ks) (hB : RelB R ρ H Hr) (hρ : ∀ (l : Nat) (p : RBlk), Hr[l]? = some p → ρ[l]? = some p.num) {t : TypeId} {x k v : AV} {r : Res} {X K V : Value} (h : updateA P eqs H t x k v = some r) (hx : Rel R ρ x X) (hk : Rel R ρ k K) (hv : Rel R ρ v V) :
    ∃ l m b s es clock es' clock' m0, r = .setM l m ∧ H[l]? = some (.map m0) ∧ Hr[l]? = some ⟨b, s, .map es clock⟩ ∧ MapOK m es' clock' ∧ ∀ w, OwnM H Hr w → (Instr.mapUpdate t X K V).run P w = .ok () (w.putObj b (.map es' clock')) := by
  unfold updateA at h
  split at h
  · rename_i l kc
    split at h
    · rename_i kt et m hu hl
      split at h
      · rename_i ks gg cs zv vc hT hvc
        cases hb : (eqKs ks m.ks && gg == m.g && eqCs cs m.cs && isAggA v == m.g && fitL m.cs vc) <;> simp only [hb, cond_true, cond_false] at h
        · cases h
        simp only [Bool.and_eq_true, beq_iff_eq] at hb
        obtain ⟨⟨⟨⟨b1, b2⟩, b3⟩, b4⟩, b5⟩ := hb
        have b1 := eqKs_eq b1
        have b3 := eqCs_eq b3
        subst b1; subst b2; subst b3
        split at h
        · rename_i ns vs hns hvs
          cases h
          have hS := mapT_spec he hT
          obtain ⟨q, hq, rfl⟩ := rel_mp hx
          obtain ⟨b, s, es, clock, e1, e2⟩ := hB.getM hl
          rw [hρ _ _ e1] at hq; cases hq
          cases hk with | agg hk =>
          obtain ⟨rfl, hn⟩ := keyN_sound hns hk
          have hwf := fitL_wf b5 hvs
          have hV := cells_valV hvc hvs hv
          rw [b4] at hV
          subst hV
          obtain ⟨es', clock', m1, m2⟩ := mapOK_put (b := b) e2 hn hwf hS hu
          exact ⟨l, _, b, s, es, clock, es', clock', m, rfl, hl, e1, m1, fun w hO => m2 w ((hO l _ _ hl e1).2 rfl)⟩
        · cases h
      · cases h
    · cases h
  · cases h
theorem lenM_sound (hB : RelB R ρ H Hr) (hρ : ∀ (l : Nat) (p : RBlk), Hr[l]? = some p → ρ[l]? = some p.num) {t ty : TypeId} {x v : AV} {X : Value} (h : lenMA P H t x = some v) (hx : Rel R ρ x X) : ∃ V, Rel R ρ v V ∧ ∀ w, OwnM H Hr w → (Builtin.len_ #[t] ty #[X]).run P w = .ok V w := by
  unfold lenMA at h
  split at h
  · rename_i l
    split at h
    · rename_i k e m hu hl
      cases h
      obtain ⟨q, hq, rfl⟩ := rel_mp hx
      obtain ⟨b, s, es, clock, e1, e2⟩ := hB.getM hl
      rw [hρ _ _ e1] at hq; cases hq
      have hlen : es.size = m.E.length := by have := congrArg List.length e2.ent; simpa using this
      refine ⟨_, .int, fun w hO => ?_⟩
      have hb := (hO l _ _ hl e1).2 rfl
      simp [Builtin.len_, run_underlying hu, MapKept.run_getObj_map hb, hlen, goInt, RBlk.num]
    · cases h
  · cases h
end
end Go.Proofs.Ytjbleblllmbcbaa
