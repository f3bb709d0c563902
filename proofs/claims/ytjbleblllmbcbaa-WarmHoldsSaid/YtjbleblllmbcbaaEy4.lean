/- Operations on values whose shape is known do what the machine does. No program of its own. No condition. -/
import Derived.Test.YtjbleblllmbcbaaEy3
set_option linter.unusedVariables false
set_option linter.unusedSimpArgs false
namespace Go.Proofs.Ytjbleblllmbcbaa
open Go.RowKit

variable {R : Rws}
/-- What rows say. -/
structure RwOK (R : Rws) : Prop where
  vals : ∀ j r, R j = some r → ∀ i : Nat, i < r.n → AV.vals? (r.F i) = some (r.V i)
  len : ∀ j r, R j = some r → ∀ i : Nat, i < r.n → (r.V i).length = r.s
  one : ∀ j r, R j = some r → ∀ i : Nat, i < r.n → ∀ v ∈ r.V i, v.oneCell' = true
  addr : ∀ j r, R j = some r → 0 < r.n → ∃ b off, r.A = some ⟨b, off, none⟩
  sub : ∀ j r, R j = some r → ∀ a j', subOf a r.sub = some j' → ∃ r', R j' = some r' ∧ r'.n = r.n - a ∧ (a < r.n → r'.A = r.A.map (·.add (a * r.s)))
/-- They lie there, apart from the blocks nb. -/
def Rd (R : Rws) (nb : List Nat) (w : World) : Prop := ∀ j r, R j = some r → ∀ b off, r.A = some ⟨b, off, none⟩ → 0 < r.n → b ∉ nb ∧ b < w.heap.size ∧ ∀ i, i < r.n → ∀ q u, (r.V i)[q]? = some u → w.cell? ⟨b, off + i * r.s + q, none⟩ = some u
def OwnK (R : Rws) (H : Mem) (Hr : List RBlk) (w : World) : Prop := OwnM H Hr w ∧ Rd R ((nums Hr).map (·.b)) w
/-- A row has been laid: at q, so many elements. -/
structure Laid (w' : World) (q cap n s : Nat) (F : Nat → List AV) (t : TypeId) (cur : Array Value) : Prop where
  blk : w'.heap[q]? = some (.cells cur t (0, 0))
  size : cur.size = cap * s
  le : n ≤ cap
  max : cap ≤ maxLen
  row : RowAt n s F cur
def Fine (P : Program) (R : Rws) (ρ : Nums) (H : Mem) (Hr : List RBlk) (g : Operand → Value) (o : Oper) : Res → Prop
  | .val v _ => ∃ V, Rel R ρ v V ∧ ∀ w, OwnK R H Hr w → (execOp g o).run P w = .ok (.value V) w
  | .new cs t => ∃ Cs, RelL R ρ cs Cs ∧ ∀ w, OwnK R H Hr w → (execOp g o).run P w = .ok (.value (.pointer (some ⟨w.heap.size, 0, none⟩))) (w.alloc (.cells Cs.toArray t))
  | .newS cs t n c => ∃ Cs, RelL R ρ cs Cs ∧ ∀ w, OwnK R H Hr w → (execOp g o).run P w = .ok (.value (.slice (some ⟨w.heap.size, 0, none⟩) n c)) (w.alloc (.cells Cs.toArray t))
  | .set l cs v => ∃ b s Cs Cs' ty cs0, H[l]? = some (.cells cs0 ty) ∧ Hr[l]? = some ⟨b, s, .cells Cs ty (0, 0)⟩ ∧ RelL R ρ cs Cs' ∧ Cs'.length = Cs.size ∧ v = none ∧ ∀ w, OwnK R H Hr w → ∃ w', (execOp g o).run P w = .ok .skip w' ∧ Same b w w' ∧ Blk w' b Cs'.toArray ty
  | .setR l F _ => ∃ b n s F0 cur cur' t, H[l]? = some (.row n s F0 t none) ∧ Hr[l]? = some ⟨b, s, .cells cur t (0, 0)⟩ ∧ cur'.size = cur.size ∧ RowAt n s F cur' ∧ ∀ w, OwnK R H Hr w → ∃ w', (execOp g o).run P w = .ok .skip w' ∧ Same b w w' ∧ Blk w' b cur' t
  | .app l n n' s F t _ => ∃ N F0 b cur, H[l]? = some (.row N s F0 t none) ∧ Hr[l]? = some ⟨b, s, .cells cur t (0, 0)⟩ ∧ n ≤ N ∧ RowAt n s F0 cur ∧ 0 < s ∧ ∀ w, OwnK R H Hr w → ∃ q cap cur' w', (execOp g o).run P w = .ok (.value (.slice (some ⟨q, 0, none⟩) n' cap)) w' ∧ Laid w' q cap n' s F t cur' ∧ w.grownBy w' (some b) ∧
      ((q = b ∧ cur'.size = cur.size ∧ RowAt n s F0 cur') ∨ (q = w.heap.size ∧ w'.heap[b]? = w.heap[b]?))
  | .newR n s F t _ => 0 < s ∧ ∀ w, OwnK R H Hr w → ∃ cap cur' w', (execOp g o).run P w = .ok (.value (.slice (some ⟨w.heap.size, 0, none⟩) n cap)) w' ∧ Laid w' w.heap.size cap n s F t cur' ∧ Below w.heap.size w w'
  | .newM m => ∃ es clock, MapOK m es clock ∧ ∀ w, OwnK R H Hr w → (execOp g o).run P w = .ok (.value (.map (some w.heap.size))) (w.alloc (.map es clock))
  | .setM l m => ∃ b s es clock es' clock' m0, H[l]? = some (.map m0) ∧ Hr[l]? = some ⟨b, s, .map es clock⟩ ∧ MapOK m es' clock' ∧ ∀ w, OwnK R H Hr w → (execOp g o).run P w = .ok .skip (w.putObj b (.map es' clock'))

section
variable {P : Program} {ρ : Nums} {f : Operand → Option AV} {g : Operand → Value} {H : Mem} {Hr : List RBlk} {eqs : TypeId → Option (List IntKind)}

theorem Rel.bool_inv {l z : Bool} {C : Value} (h : Rel R ρ (.bool l z) C) : C = .bool z := by cases h; rfl
theorem equalIn_ptr_nil (d : Nat) {t e : TypeId} (hu : P.underlying t = some (.pointer e)) (a : Addr) (w : World) : (Op.equalIn (d + 1) t (.pointer (some a)) (.pointer none)).run P w = .ok false w := by
  rw [Op.equalIn]; simp [run_underlying hu]
theorem equalIn_nil_nil (d : Nat) {t e : TypeId} (hu : P.underlying t = some (.pointer e)) (w : World) : (Op.equalIn (d + 1) t (.pointer none) (.pointer none)).run P w = .ok true w := by
  rw [Op.equalIn]; simp [run_underlying hu]
theorem equalIn_fn_nil (d : Nat) {t : TypeId} {ps rs : Array TypeId} {z : Bool} (hu : P.underlying t = some (.func ps rs z)) (fn : Fn) (fi ca : Array Value) (w : World) : (Op.equalIn (d + 1) t (.func fn fi ca) .nilFunc).run P w = .ok false w := by
  rw [Op.equalIn]; simp [run_underlying hu]
theorem equalIn_map_nil (d : Nat) {t k e : TypeId} (hu : P.underlying t = some (.map k e)) (b : Nat) (w : World) : (Op.equalIn (d + 1) t (.map (some b)) (.map none)).run P w = .ok false w := by
  rw [Op.equalIn]; simp [run_underlying hu]
theorem equalIn_mapnil_nil (d : Nat) {t k e : TypeId} (hu : P.underlying t = some (.map k e)) (w : World) : (Op.equalIn (d + 1) t (.map none) (.map none)).run P w = .ok true w := by
  rw [Op.equalIn]; simp [run_underlying hu]
theorem pick_sound {c a b v : AV} {C A B : Value} (h : pickA c a b = some v) (hc : Rel R ρ c C) (ha : Rel R ρ a A) (hb : Rel R ρ b B) : ∃ z, C = .bool z ∧ Rel R ρ v (if z then A else B) := by
  unfold pickA at h
  split at h
  · rename_i z
    obtain rfl := hc.bool_inv
    cases h; refine ⟨_, rfl, ?_⟩; cases z; exact hb; exact ha
  · rename_i z l a m b; cases hc; cases ha; cases hb; cases h; refine ⟨_, rfl, ?_⟩; cases z <;> simp <;> exact .bool
  · rename_i z k l a k' m b
    split at h
    · rename_i e; subst e
      cases hc; cases ha; cases hb; cases h; refine ⟨_, rfl, ?_⟩; cases z <;> simp <;> exact .int
    · cases h
  · cases h
theorem zero_sound {t : TypeId} {cs : List AV} (h : zeroA P t = some cs) : ∃ z, RelL R ρ cs z.cells.toList ∧ ∀ w, (zeroValue t).run P w = .ok z w := by
  unfold zeroA at h
  rw [Option.map_eq_some_iff] at h
  obtain ⟨z, h1, h2⟩ := h
  rw [Option.bind_eq_some_iff] at h1
  obtain ⟨i, h3, h4⟩ := h1
  subst h2
  exact ⟨z, RelL.ofCells _, fun w => by simp [zeroValue, typeInfo, h3, h4]⟩
theorem evs_sound (hfg : ∀ x v, f x = some v → Rel R ρ v (g x)) : ∀ {l : List Operand} {vs : List AV}, evs f l = some vs → RelL R ρ vs (l.map g)
  | [], _, h => by cases h; exact .nil
  | x :: r, vs, h => by
    unfold evs at h
    split at h
    · rename_i h1 h2; cases h; exact .cons (hfg _ _ h1) (evs_sound hfg h2)
    · cases h
inductive RelP (R : Rws) (ρ : Nums) : List (Nat × AV) → List (Nat × Value) → Prop
  | nil : RelP R ρ [] []
  | cons {i v V l L} (h : Rel R ρ v V) (hs : RelP R ρ l L) : RelP R ρ ((i, v) :: l) ((i, V) :: L)
theorem evParts_sound (hfg : ∀ x v, f x = some v → Rel R ρ v (g x)) : ∀ {l : List (Nat × Operand)} {vs : List (Nat × AV)}, evParts f l = some vs → RelP R ρ vs (l.map fun (i, x) => (i, g x))
  | [], _, h => by cases h; exact .nil
  | (i, x) :: r, vs, h => by
    unfold evParts at h
    split at h
    · rename_i h1 h2; cases h; exact .cons (hfg _ _ h1) (evParts_sound hfg h2)
    · cases h
theorem foldl_sets (off : Nat) : ∀ (l : List Value) (k : Nat) (Cs : List Value), (l.zipIdx k).foldl (fun (cs : Array Value) (p : Value × Nat) => cs.setIfInBounds (off + p.2) p.1) Cs.toArray = (setsV Cs (off + k) l).toArray
  | [], k, Cs => rfl
  | v :: r, k, Cs => by
    rw [List.zipIdx_cons, List.foldl_cons, setsV]
    have := foldl_sets off r (k + 1) (Cs.set (off + k) v)
    rw [show off + k + 1 = off + (k + 1) by omega]
    simpa using this
theorem fill_sound {place : Nat → Option (Nat × Nat)} {parts : List (Nat × AV)} {Parts : List (Nat × Value)} (hp : RelP R ρ parts Parts) : ∀ {cells cs : List AV} {Cells : List Value}, fillA place cells parts = some cs → RelL R ρ cells Cells →
    ∃ Cs, Instr.fill place Cells.toArray Parts = some Cs.toArray ∧ RelL R ρ cs Cs := by
  induction hp with
  | nil => intro cells cs Cells h hc; cases h; exact ⟨_, rfl, hc⟩
  | @cons i v V l L hv hs ih =>
    intro cells cs Cells h hc
    unfold fillA at h
    split at h
    · rename_i off size vs h1 h2
      split at h
      · rename_i hb
        rw [Bool.and_eq_true] at hb
        have hb1 := Nat.eq_of_beq_eq_true hb.1
        have hb2 := Nat.le_of_ble_eq_true hb.2
        have hr := hv.cells h2
        have hl := hr.len
        simp only [Array.length_toList] at hl
        obtain ⟨Cs, r1, r2⟩ := ih h (sets_rel (o := off) hr hc)
        refine ⟨Cs, ?_, r2⟩
        unfold Instr.fill
        simp only [h1]
        have hl2 := hc.len
        rw [if_neg (by simp; omega)]
        have e := foldl_sets off V.cells.toList 0 Cells
        rw [Nat.add_zero] at e
        rw [← r1, ← e, ← Array.foldl_toList]
        simp
      · cases h
    · cases h
theorem places_run : ∀ {fs : List Field} {pl : List (Nat × Nat)}, placesA P fs = some pl → ∀ w, (fs.mapM fun f => (do pure (f.offset, ← sizeOf f.type) : Sem (Nat × Nat))).run P w = .ok pl w
  | [], _, h, w => by cases h; rfl
  | f :: r, pl, h, w => by
    unfold placesA at h
    split at h
    · rename_i n l h1 h2
      cases h
      have e : (do pure (f.offset, ← sizeOf f.type) : Sem (Nat × Nat)).run P w = .ok (f.offset, n) w := by simp only [Sem.run_bind, run_sizeA h1, Result.andThen_ok, Sem.run_pure]
      rw [List.mapM_cons, Sem.run_bind, e, Result.andThen_ok, Sem.run_bind, places_run h2 w]
      rfl
    · cases h
theorem build_sound {t : TypeId} {parts : List (Nat × AV)} {Parts : Array (Nat × Value)} {v : AV} (h : buildA P t parts = some v) (hp : RelP R ρ parts Parts.toList) : ∃ V, Rel R ρ v V ∧ ∀ w, (Instr.build t Parts).run P w = .ok V w := by
  unfold buildA at h
  split at h
  · rename_i z fs hz hu
    obtain ⟨Z, z1, z2⟩ := zero_sound (R := R) (ρ := ρ) hz
    split at h
    · rename_i pl hpl
      rw [Option.map_eq_some_iff] at h
      obtain ⟨cs, h1, h2⟩ := h
      subst h2
      obtain ⟨Cs, r1, r2⟩ := fill_sound hp h1 z1
      refine ⟨_, .agg r2, fun w => ?_⟩
      have hm : (fs.mapM fun f => (do pure (f.offset, ← sizeOf f.type) : Sem (Nat × Nat))).run P w = .ok pl.toArray w := by
        rw [Array.mapM_eq_mapM_toList, Sem.run_map, places_run hpl w]; rfl
      simp only [Instr.build, Sem.run_bind, z2, Result.andThen_ok, run_underlying hu, hm]
      have r1' : Instr.fill (fun x => pl[x]?) Z.cells Parts.toList = some Cs.toArray := by simpa using r1
      simp [r1']
    · cases h
  · rename_i z n e hz hu
    obtain ⟨Z, z1, z2⟩ := zero_sound (R := R) (ρ := ρ) hz
    split at h
    · rename_i s hs
      rw [Option.map_eq_some_iff] at h
      obtain ⟨cs, h1, h2⟩ := h
      subst h2
      obtain ⟨Cs, r1, r2⟩ := fill_sound hp h1 z1
      refine ⟨_, .agg r2, fun w => ?_⟩
      have r1' : Instr.fill (fun i => some (i * s, s)) Z.cells Parts.toList = some Cs.toArray := by simpa using r1
      simp [Instr.build, Sem.run_bind, z2, run_underlying hu, run_sizeA hs, r1']
    · cases h
  · cases h
theorem allOne_sound : ∀ {cs : List AV} {Cs : List Value}, allOne cs = true → RelL R ρ cs Cs → ∀ v ∈ Cs, v.oneCell' = true
  | _, _, _, .nil => by simp
  | _, _, h, .cons hv hs => by
    unfold allOne at h
    rw [Bool.and_eq_true] at h
    intro v hv'
    rcases List.mem_cons.1 hv' with rfl | hv'
    · exact hv.one h.1
    · exact allOne_sound h.2 hs v hv'
theorem eqGuard_int (op : BinOp) (t : TypeId) (x y : Operand) (k : IntKind) (n : Int) (Y : Value) (w : World) : (eqGuard op t x y (.int k n) Y).run P w = .ok () w := by
  unfold eqGuard; cases op <;> simp <;> (cases Y <;> rfl)
theorem binA_int {op : BinOp} {x y : AV} {r : VC} {X : Value} (h : binA op x y = some r) (hx : Rel R ρ x X) : ∃ k n, X = .int k n := by
  unfold binA at h
  cases hx <;> first | exact ⟨_, _, rfl⟩ | skip
  all_goals
    cases hs : isShift op <;> cases hd : isDiv op <;> simp only [hs, hd, cond_true, cond_false] at h
    all_goals first | cases h | (revert h; cases amount y <;> intro h <;> cases h) | (revert h; cases y <;> intro h <;> cases h)
theorem eqPair_sound {k : IntKind} {x y : AV} {l b : Bool} {X Y : Value} (h1 : eqPair k x y = some (l, b)) (x0 : Rel R ρ x X) (y0 : Rel R ρ y Y) : ∃ a c : Int, X = .int k a ∧ Y = .int k c ∧ b = decide (a = c) := by
  cases x0 <;> cases y0 <;> simp only [eqPair] at h1 <;> try cases h1
  · split at h1
    · rename_i e; obtain ⟨rfl, rfl⟩ := e; cases h1; exact ⟨_, _, rfl, rfl, rfl⟩
    · cases h1
  · split at h1
    · rename_i e; obtain ⟨rfl, rfl⟩ := e; cases h1; exact ⟨_, _, rfl, rfl, rfl⟩
    · cases h1
  · split at h1
    · rename_i e; obtain ⟨rfl, rfl⟩ := e; cases h1; exact ⟨_, _, rfl, rfl, rfl⟩
    · cases h1
  · split at h1
    · rename_i e; subst e
      split at h1
      · rename_i e2; subst e2; cases h1
        refine ⟨_, _, rfl, rfl, ?_⟩
        rw [Bool.eq_iff_iff]; simp [BitVec.toNat_eq]; omega
      · cases h1
    · cases h1
theorem eqList_sound : ∀ {ks : List IntKind} {xs ys : List AV} {l b : Bool} {Xs Ys : List Value}, eqList ks xs ys = some (l, b) → RelL R ρ xs Xs → RelL R ρ ys Ys →
    ∃ us bs : List Int, us.length = ks.length ∧ bs.length = ks.length ∧ Xs = cellsK ks us ∧ Ys = cellsK ks bs ∧ b = decide (us = bs) := by
  intro ks
  induction ks with
  | nil =>
    intro xs ys l b Xs Ys h hx hy
    cases hx <;> cases hy <;> simp [eqList] at h
    obtain ⟨rfl, rfl⟩ := h
    exact ⟨[], [], rfl, rfl, rfl, rfl, rfl⟩
  | cons k ks ih =>
    intro xs ys l b Xs Ys h hx hy
    cases hx with
    | nil => simp [eqList] at h
    | cons x0 xs0 =>
      cases hy with
      | nil => simp [eqList] at h
      | cons y0 ys0 =>
        unfold eqList at h
        split at h
        · rename_i l1 b1 l2 b2 h1 h2
          cases h
          obtain ⟨us, bs, e1, e2, e3, e4, e5⟩ := ih h2 xs0 ys0
          obtain ⟨a, b, ea, eb, ec⟩ := eqPair_sound h1 x0 y0
          refine ⟨a :: us, b :: bs, by simp [e1], by simp [e2], by rw [ea, e3]; rfl, by rw [eb, e4]; rfl, ?_⟩
          rw [ec, e5]
          rw [Bool.eq_iff_iff]; simp
        · cases h
theorem eql_sound (he : ∀ t ks, eqs t = some ks → EqT P t ks) {neg : Bool} {t : TypeId} {x y v : AV} {X Y : Value} (h : eqlA P eqs neg t x y = some v) (hx : Rel R ρ x X) (hy : Rel R ρ y Y) (a b : Operand) :
    ∃ V, Rel R ρ v V ∧ ∀ w, (do eqGuard (if neg then .neq else .eql) t a b X Y; binOp (if neg then .neq else .eql) t X Y : Sem Value).run P w = .ok V w := by
  unfold eqlA at h
  split at h
  · rename_i l a' m b'
    cases hx; cases hy
    split at h
    · rename_i hu
      cases h
      refine ⟨_, .bool, fun w => ?_⟩
      cases neg
      · simp [eqGuard, run_eql_bool w t _ _ hu]
      · simp [eqGuard, run_neq_bool w t _ _ hu]
    · cases h
  · rename_i xs ys
    cases hx with | agg hx =>
    cases hy with | agg hy =>
    split at h
    · rename_i ks hks
      split at h
      · cases h
      · rename_i hg
        split at h
        · rename_i l b' hl
          cases h
          obtain ⟨us, bs, e1, e2, e3, e4, e5⟩ := eqList_sound hl hx hy
          have := he t ks hks us bs e1 e2
          subst e3; subst e4; subst e5
          refine ⟨_, .bool, fun w => ?_⟩
          cases neg
          · simp [eqGuard, hg, binOp, this w]
          · simp [eqGuard, hg, binOp, this w]
        · cases h
    · cases h
  · rename_i l
    cases hx; cases hy
    split at h
    · rename_i k e hu
      cases h
      refine ⟨_, .bool, fun w => ?_⟩
      cases neg <;> simp [eqGuard, binOp, Op.equal, Op.maxDepth, equalIn_map_nil 9999 hu]
    · cases h
  · cases hx; cases hy
    split at h
    · rename_i k e hu
      cases h
      refine ⟨_, .bool, fun w => ?_⟩
      cases neg <;> simp [eqGuard, binOp, Op.equal, Op.maxDepth, equalIn_mapnil_nil 9999 hu]
    · cases h
  · rename_i l o
    cases hx; cases hy
    split at h
    · rename_i e hu
      cases h
      refine ⟨_, .bool, fun w => ?_⟩
      cases neg <;> simp [eqGuard, binOp, Op.equal, Op.maxDepth, equalIn_ptr_nil 9999 hu]
    · cases h
  · cases hx; cases hy
    split at h
    · rename_i e hu
      cases h
      refine ⟨_, .bool, fun w => ?_⟩
      cases neg <;> simp [eqGuard, binOp, Op.equal, Op.maxDepth, equalIn_nil_nil 9999 hu]
    · cases h
  · cases hx; cases hy
    split at h
    · rename_i e1 e2 e3 hu
      cases h
      refine ⟨_, .bool, fun w => ?_⟩
      cases neg <;> simp [eqGuard, binOp, Op.equal, Op.maxDepth, equalIn_fn_nil 9999 hu]
    · cases h
  · rename_i a' b'
    cases hx; cases hy
    cases h
    refine ⟨_, .bool, fun w => ?_⟩
    cases neg <;> simp [eqGuard, binOp, Op.stringOp]
  · cases h
theorem litNat_sound {v : AV} {V : Value} {n : Nat} (h : litNat v = some n) (hr : Rel R ρ v V) : ∃ k, V = .int k (n : Int) := by
  cases hr <;> simp only [litNat] at h <;> try cases h
  case int k l m =>
    cases l <;> simp only at h
    · cases h
    · split at h
      · cases h
      · cases h; refine ⟨k, ?_⟩; congr 1; omega
end
end Go.Proofs.Ytjbleblllmbcbaa
