/- Which values are alike. No condition. -/
import Derived.Test.YtcfomhnfhalmaaaStackF
set_option linter.unusedVariables false
set_option linter.unusedSimpArgs false
set_option maxRecDepth 100000
namespace Go.Proofs.Ytcfomhnfhalmaaa
open Go.RowKit

def v5V (x : V5) : List Value := [.int .u64 (x.a.toNat : Int), .int .u64 (x.b.toNat : Int), .int .u64 (x.c.toNat : Int), .int .u64 (x.d.toNat : Int), .int .u64 (x.l.toNat : Int)]
theorem rel_v5 {R : Rws} {ρ : Nums} (x : V5) : Rel R ρ (.agg (v5 x)) (.agg (v5V x).toArray) := .agg (.cons (.bv rfl) (.cons (.bv rfl) (.cons (.bv rfl) (.cons (.bv rfl) (.cons (.bv rfl) .nil)))))
theorem rel_v5_inv {R : Rws} {ρ : Nums} {x : V5} {V : Value} (h : Rel R ρ (.agg (v5 x)) V) : V = .agg (v5V x).toArray := by
  cases h with | agg h =>
  cases h with | cons a1 h =>
  cases h with | cons a2 h =>
  cases h with | cons a3 h =>
  cases h with | cons a4 h =>
  cases h with | cons a5 h =>
  cases h
  cases a1; cases a2; cases a3; cases a4; cases a5
  rfl
def wordsB (x y : V5) : Bool := x.a == y.a && (x.b == y.b && (x.c == y.c && (x.d == y.d && true)))
def sameB (x y : V5) (up : BitVec 64) : Bool := x.l == y.l && (wordsB x y || !(belowB x.l up))
noncomputable def tsame_r0 (x y : V5) (up : BitVec 64) : AV := AV.bool true true
theorem tsame_0 (x y : V5) (up : BitVec 64) (h : AllE [(V5.l x == V5.l y, true), (false != (V5.a x == V5.a y && (V5.b x == V5.b y && (V5.c x == V5.c y && (V5.d x == V5.d y && true)))), true)]) : Is (evCall (EG noRows false [] []) 60 64 [.agg (v5 x), .agg (v5 y), .bv .u64 up] ⟨[], [true, true], allW⟩ (fun v _ => v = tsame_r0 x y up)) := ev_eq [(V5.l x == V5.l y, true), (false != (V5.a x == V5.a y && (V5.b x == V5.b y && (V5.c x == V5.c y && (V5.d x == V5.d y && true)))), true)] (tsame_r0 x y up) (by kernel_rfl) h
noncomputable def tsame_r1 (x y : V5) (up : BitVec 64) : AV := AV.bool false !V5.l x &&& ~~~(up) == BitVec.ofInt 64 0
theorem tsame_1 (x y : V5) (up : BitVec 64) (h : AllE [(V5.l x == V5.l y, true), (false != (V5.a x == V5.a y && (V5.b x == V5.b y && (V5.c x == V5.c y && (V5.d x == V5.d y && true)))), false)]) : Is (evCall (EG noRows false [] []) 60 64 [.agg (v5 x), .agg (v5 y), .bv .u64 up] ⟨[], [true, false], allW⟩ (fun v _ => v = tsame_r1 x y up)) := ev_eq [(V5.l x == V5.l y, true), (false != (V5.a x == V5.a y && (V5.b x == V5.b y && (V5.c x == V5.c y && (V5.d x == V5.d y && true)))), false)] (tsame_r1 x y up) (by kernel_rfl) h
noncomputable def tsame_r2 (x y : V5) (up : BitVec 64) : AV := AV.bool true false
theorem tsame_2 (x y : V5) (up : BitVec 64) (h : AllE [(V5.l x == V5.l y, false)]) : Is (evCall (EG noRows false [] []) 60 64 [.agg (v5 x), .agg (v5 y), .bv .u64 up] ⟨[], [false], allW⟩ (fun v _ => v = tsame_r2 x y up)) := ev_eq [(V5.l x == V5.l y, false)] (tsame_r2 x y up) (by kernel_rfl) h
theorem tsame_any (x y : V5) (up : BitVec 64)  (w : World) : Calls Try.prog 64 #[.agg (v5V x).toArray, .agg (v5V y).toArray, .int .u64 (up.toNat : Int)] w fun e w' => e = .returned (.bool (sameB x y up)) ∧ Below w.heap.size w w' := by
  rcases h0 : (V5.l x == V5.l y) with _ | _
  · have hV : (tsame_r2 x y up).told? = some (.bool (sameB x y up)) := congrArg some (by show Value.bool _ = Value.bool _; congr 1; unfold sameB wordsB; revert h0; generalize (x.a == y.a && (x.b == y.b && (x.c == y.c && (x.d == y.d && true)))) = q; generalize (x.l == y.l) = p; intro _; cases p <;> cases q <;> first | rfl | contradiction)
    exact ev_callsI (EG_ok rwOK_no false good_nil goodM_nil) 60 (tsame_2 x y up (allE_cons h0 allE_nil)) hV (.cons (rel_v5 x) (.cons (rel_v5 y) (.cons (.bv rfl) .nil))) rfl w
  · rcases h1 : (false != (V5.a x == V5.a y && (V5.b x == V5.b y && (V5.c x == V5.c y && (V5.d x == V5.d y && true))))) with _ | _
    · have hV : (tsame_r1 x y up).told? = some (.bool (sameB x y up)) := congrArg some (by show Value.bool _ = Value.bool _; congr 1; unfold sameB wordsB; revert h0 h1; generalize (x.a == y.a && (x.b == y.b && (x.c == y.c && (x.d == y.d && true)))) = q; generalize (x.l == y.l) = p; intro _ _; cases p <;> cases q <;> first | rfl | contradiction)
      exact ev_callsI (EG_ok rwOK_no false good_nil goodM_nil) 60 (tsame_1 x y up (allE_cons h0 (allE_cons h1 allE_nil))) hV (.cons (rel_v5 x) (.cons (rel_v5 y) (.cons (.bv rfl) .nil))) rfl w
    · have hV : (tsame_r0 x y up).told? = some (.bool (sameB x y up)) := congrArg some (by show Value.bool _ = Value.bool _; congr 1; unfold sameB wordsB; revert h0 h1; generalize (x.a == y.a && (x.b == y.b && (x.c == y.c && (x.d == y.d && true)))) = q; generalize (x.l == y.l) = p; intro _ _; cases p <;> cases q <;> first | rfl | contradiction)
      exact ev_callsI (EG_ok rwOK_no false good_nil goodM_nil) 60 (tsame_0 x y up (allE_cons h0 (allE_cons h1 allE_nil))) hV (.cons (rel_v5 x) (.cons (rel_v5 y) (.cons (.bv rfl) .nil))) rfl w
noncomputable def rsame_r0 (x y : V5) (up : BitVec 64) : AV := AV.bool true true
theorem rsame_0 (x y : V5) (up : BitVec 64) (h : AllE [(V5.l x == V5.l y, true), (!belowB (V5.l x) up, true)]) : Is (evCall (EG noRows false [] []) 60 78 [.agg (v5 x), .agg (v5 y), .bv .u64 up] ⟨[], [true, true], allW⟩ (fun v _ => v = rsame_r0 x y up)) := ev_eq [(V5.l x == V5.l y, true), (!belowB (V5.l x) up, true)] (rsame_r0 x y up) (by kernel_rfl) h
noncomputable def rsame_r1 (x y : V5) (up : BitVec 64) : AV := AV.bool false (false != (V5.a x == V5.a y && (V5.b x == V5.b y && (V5.c x == V5.c y && (V5.d x == V5.d y && true)))))
theorem rsame_1 (x y : V5) (up : BitVec 64) (h : AllE [(V5.l x == V5.l y, true), (!belowB (V5.l x) up, false)]) : Is (evCall (EG noRows false [] []) 60 78 [.agg (v5 x), .agg (v5 y), .bv .u64 up] ⟨[], [true, false], allW⟩ (fun v _ => v = rsame_r1 x y up)) := ev_eq [(V5.l x == V5.l y, true), (!belowB (V5.l x) up, false)] (rsame_r1 x y up) (by kernel_rfl) h
noncomputable def rsame_r2 (x y : V5) (up : BitVec 64) : AV := AV.bool true false
theorem rsame_2 (x y : V5) (up : BitVec 64) (h : AllE [(V5.l x == V5.l y, false)]) : Is (evCall (EG noRows false [] []) 60 78 [.agg (v5 x), .agg (v5 y), .bv .u64 up] ⟨[], [false], allW⟩ (fun v _ => v = rsame_r2 x y up)) := ev_eq [(V5.l x == V5.l y, false)] (rsame_r2 x y up) (by kernel_rfl) h
theorem rsame_any (x y : V5) (up : BitVec 64)  (w : World) : Calls Try.prog 78 #[.agg (v5V x).toArray, .agg (v5V y).toArray, .int .u64 (up.toNat : Int)] w fun e w' => e = .returned (.bool (sameB x y up)) ∧ Below w.heap.size w w' := by
  rcases h0 : (V5.l x == V5.l y) with _ | _
  · have hV : (rsame_r2 x y up).told? = some (.bool (sameB x y up)) := congrArg some (by show Value.bool _ = Value.bool _; congr 1; unfold sameB wordsB; revert h0; generalize (x.a == y.a && (x.b == y.b && (x.c == y.c && (x.d == y.d && true)))) = q; generalize (x.l == y.l) = p; intro _; cases p <;> cases q <;> first | rfl | contradiction)
    exact ev_callsI (EG_ok rwOK_no false good_nil goodM_nil) 60 (rsame_2 x y up (allE_cons h0 allE_nil)) hV (.cons (rel_v5 x) (.cons (rel_v5 y) (.cons (.bv rfl) .nil))) rfl w
  · rcases h1 : (!belowB (V5.l x) up) with _ | _
    · have hV : (rsame_r1 x y up).told? = some (.bool (sameB x y up)) := congrArg some (by show Value.bool _ = Value.bool _; congr 1; unfold sameB wordsB; revert h0 h1; generalize (x.a == y.a && (x.b == y.b && (x.c == y.c && (x.d == y.d && true)))) = q; generalize (x.l == y.l) = p; generalize belowB x.l up = r; intro _ _; cases p <;> cases q <;> cases r <;> first | rfl | contradiction)
      exact ev_callsI (EG_ok rwOK_no false good_nil goodM_nil) 60 (rsame_1 x y up (allE_cons h0 (allE_cons h1 allE_nil))) hV (.cons (rel_v5 x) (.cons (rel_v5 y) (.cons (.bv rfl) .nil))) rfl w
    · have hV : (rsame_r0 x y up).told? = some (.bool (sameB x y up)) := congrArg some (by show Value.bool _ = Value.bool _; congr 1; unfold sameB wordsB; revert h0 h1; generalize (x.a == y.a && (x.b == y.b && (x.c == y.c && (x.d == y.d && true)))) = q; generalize (x.l == y.l) = p; generalize belowB x.l up = r; intro _ _; cases p <;> cases q <;> cases r <;> first | rfl | contradiction)
      exact ev_callsI (EG_ok rwOK_no false good_nil goodM_nil) 60 (rsame_0 x y up (allE_cons h0 (allE_cons h1 allE_nil))) hV (.cons (rel_v5 x) (.cons (rel_v5 y) (.cons (.bv rfl) .nil))) rfl w
def ctrSame : CtrF
  | [.agg [.bv .u64 a, .bv .u64 b, .bv .u64 c, .bv .u64 d, .bv .u64 l], .agg [.bv .u64 a', .bv .u64 b', .bv .u64 c', .bv .u64 d', .bv .u64 l'], u], _ => match labA u with
    | some (_, up, cs) => some (.bool false (sameB ⟨a, b, c, d, l⟩ ⟨a', b', c', d', l'⟩ up), cs)
    | none => none
  | _, _ => none
theorem ctrS1_ok {R : Rws} : Good Try.prog R 64 ctrSame := by
  refine ⟨enters_of Try.func64 (by kernel_rfl) rfl, fun args H v cs hv hcs => ?_⟩
  unfold ctrSame at hv
  split at hv
  · rename_i a b c d l a' b' c' d' l' u
    split at hv
    · rename_i ll up cs' h1
      cases hv
      refine ⟨_, rfl, fun Hr Args ha _ _ w _ => ?_⟩
      cases ha with | cons a1 ha =>
      cases ha with | cons a2 ha =>
      cases ha with | cons a3 ha =>
      cases ha
      obtain rfl := labA_rel h1 hcs a3
      obtain rfl := rel_v5_inv (x := ⟨a, b, c, d, l⟩) a1
      obtain rfl := rel_v5_inv (x := ⟨a', b', c', d', l'⟩) a2
      exact tsame_any _ _ _ w
    · cases hv
  · cases hv
theorem ctrS2_ok {R : Rws} : Good Try.prog R 78 ctrSame := by
  refine ⟨enters_of Try.func78 (by kernel_rfl) rfl, fun args H v cs hv hcs => ?_⟩
  unfold ctrSame at hv
  split at hv
  · rename_i a b c d l a' b' c' d' l' u
    split at hv
    · rename_i ll up cs' h1
      cases hv
      refine ⟨_, rfl, fun Hr Args ha _ _ w _ => ?_⟩
      cases ha with | cons a1 ha =>
      cases ha with | cons a2 ha =>
      cases ha with | cons a3 ha =>
      cases ha
      obtain rfl := labA_rel h1 hcs a3
      obtain rfl := rel_v5_inv (x := ⟨a, b, c, d, l⟩) a1
      obtain rfl := rel_v5_inv (x := ⟨a', b', c', d', l'⟩) a2
      exact rsame_any _ _ _ w
    · cases hv
  · cases hv
noncomputable def tabS : List (Nat × CtrF) := [(64, ctrSame), (78, ctrSame)]
theorem tabS_ok {R : Rws} : ∀ p ∈ tabS, Good Try.prog R p.1 p.2 := good_cons (p := (_, _)) ctrS1_ok (good_cons (p := (_, _)) ctrS2_ok good_nil)
end Go.Proofs.Ytcfomhnfhalmaaa
