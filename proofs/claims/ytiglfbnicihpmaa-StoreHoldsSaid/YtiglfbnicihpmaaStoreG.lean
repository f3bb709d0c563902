/- Walks: the document's costs of a change. -/
import Derived.Test.YtiglfbnicihpmaaStoreA
set_option linter.unusedVariables false
set_option linter.unusedSimpArgs false
namespace Go.Proofs.Ytiglfbnicihpmaa
open Go.RowKit
def exC (x y z : Vl) : Int := if sameW z y then 100 else if sameW y x && noW x then 20000 else if sameW y x then 2900 else 100
def exM (x y z : Vl) : Int := if sameW z y then 0 else if sameW y x && noW x then 0 else if sameW y x then (if noW z then 4800 else 0) else (if !noW x && noW z then 4800 else 0) + (if sameW z x then (if noW x then 19900 else 2800) else 0)
def exL (x y z : Vl) : Int := if sameW z y then 0 else if sameW y x then 0 else if !noW x && noW y then 4800 else 0
theorem exC_bd (x y z : Vl) : 0 ≤ exC x y z ∧ exC x y z ≤ 20000 := by unfold exC; split <;> (try split) <;> (try split) <;> omega
theorem exM_bd (x y z : Vl) : 0 ≤ exM x y z ∧ exM x y z ≤ 24700 := by
  unfold exM
  repeat' split
  all_goals omega
theorem exL_bd (x y z : Vl) : 0 ≤ exL x y z ∧ exL x y z ≤ 4800 := by unfold exL; split <;> (try split) <;> (try split) <;> omega

set_option maxHeartbeats 1000000 in
set_option maxRecDepth 20000 in
theorem exact_0 (x y z : Vl) (w : World) (hp : sameW z y = true) :
    Calls Try.prog 23 #[.agg #[.int .u64 x.a, .int .u64 x.b, .int .u64 x.c, .int .u64 x.d], .agg #[.int .u64 y.a, .int .u64 y.b, .int .u64 y.c, .int .u64 y.d], .agg #[.int .u64 z.a, .int .u64 z.b, .int .u64 z.c, .int .u64 z.d]] w fun e w' => e = .returned (.tuple #[.int .u64 100, .int .u64 0, .int .u64 0]) ∧ Below w.heap.size w w' := by
  have qp := eqWord0 z.a z.b z.c z.d y.a y.b y.c y.d
  rw [show decide (z.a = y.a ∧ z.b = y.b ∧ z.c = y.c ∧ z.d = y.d) = sameW z y from rfl, hp] at qp
  clear hp
  go_enter Try.func23, Try.ntmps23
  go_wp2_with fail
  go_ret3
  exact ⟨rfl, by go_grown⟩

set_option maxHeartbeats 1000000 in
set_option maxRecDepth 20000 in
theorem exact_1 (x y z : Vl) (w : World) (hp : sameW z y = false) (hq : sameW y x = true) (hr : noW x = true) :
    Calls Try.prog 23 #[.agg #[.int .u64 x.a, .int .u64 x.b, .int .u64 x.c, .int .u64 x.d], .agg #[.int .u64 y.a, .int .u64 y.b, .int .u64 y.c, .int .u64 y.d], .agg #[.int .u64 z.a, .int .u64 z.b, .int .u64 z.c, .int .u64 z.d]] w fun e w' => e = .returned (.tuple #[.int .u64 20000, .int .u64 0, .int .u64 0]) ∧ Below w.heap.size w w' := by
  have qp := eqWord0 z.a z.b z.c z.d y.a y.b y.c y.d
  rw [show decide (z.a = y.a ∧ z.b = y.b ∧ z.c = y.c ∧ z.d = y.d) = sameW z y from rfl, hp] at qp
  have qq := eqWord0 y.a y.b y.c y.d x.a x.b x.c x.d
  rw [show decide (y.a = x.a ∧ y.b = x.b ∧ y.c = x.c ∧ y.d = x.d) = sameW y x from rfl, hq] at qq
  have qr := eqWord0 x.a x.b x.c x.d 0 0 0 0
  rw [show decide (x.a = 0 ∧ x.b = 0 ∧ x.c = 0 ∧ x.d = 0) = noW x from rfl, hr] at qr
  clear hp
  clear hq
  clear hr
  go_enter Try.func23, Try.ntmps23
  go_wp2_with fail
  go_ret3
  exact ⟨rfl, by go_grown⟩

set_option maxHeartbeats 1000000 in
set_option maxRecDepth 20000 in
theorem exact_2 (x y z : Vl) (w : World) (hp : sameW z y = false) (hq : sameW y x = true) (hr : noW x = false) (hs : noW z = true) :
    Calls Try.prog 23 #[.agg #[.int .u64 x.a, .int .u64 x.b, .int .u64 x.c, .int .u64 x.d], .agg #[.int .u64 y.a, .int .u64 y.b, .int .u64 y.c, .int .u64 y.d], .agg #[.int .u64 z.a, .int .u64 z.b, .int .u64 z.c, .int .u64 z.d]] w fun e w' => e = .returned (.tuple #[.int .u64 2900, .int .u64 4800, .int .u64 0]) ∧ Below w.heap.size w w' := by
  have qp := eqWord0 z.a z.b z.c z.d y.a y.b y.c y.d
  rw [show decide (z.a = y.a ∧ z.b = y.b ∧ z.c = y.c ∧ z.d = y.d) = sameW z y from rfl, hp] at qp
  have qq := eqWord0 y.a y.b y.c y.d x.a x.b x.c x.d
  rw [show decide (y.a = x.a ∧ y.b = x.b ∧ y.c = x.c ∧ y.d = x.d) = sameW y x from rfl, hq] at qq
  have qr := eqWord0 x.a x.b x.c x.d 0 0 0 0
  rw [show decide (x.a = 0 ∧ x.b = 0 ∧ x.c = 0 ∧ x.d = 0) = noW x from rfl, hr] at qr
  have qs := eqWord0 z.a z.b z.c z.d 0 0 0 0
  rw [show decide (z.a = 0 ∧ z.b = 0 ∧ z.c = 0 ∧ z.d = 0) = noW z from rfl, hs] at qs
  clear hp
  clear hq
  clear hr
  clear hs
  go_enter Try.func23, Try.ntmps23
  go_wp2_with fail
  go_ret3
  exact ⟨rfl, by go_grown⟩

set_option maxHeartbeats 1000000 in
set_option maxRecDepth 20000 in
theorem exact_3 (x y z : Vl) (w : World) (hp : sameW z y = false) (hq : sameW y x = true) (hr : noW x = false) (hs : noW z = false) :
    Calls Try.prog 23 #[.agg #[.int .u64 x.a, .int .u64 x.b, .int .u64 x.c, .int .u64 x.d], .agg #[.int .u64 y.a, .int .u64 y.b, .int .u64 y.c, .int .u64 y.d], .agg #[.int .u64 z.a, .int .u64 z.b, .int .u64 z.c, .int .u64 z.d]] w fun e w' => e = .returned (.tuple #[.int .u64 2900, .int .u64 0, .int .u64 0]) ∧ Below w.heap.size w w' := by
  have qp := eqWord0 z.a z.b z.c z.d y.a y.b y.c y.d
  rw [show decide (z.a = y.a ∧ z.b = y.b ∧ z.c = y.c ∧ z.d = y.d) = sameW z y from rfl, hp] at qp
  have qq := eqWord0 y.a y.b y.c y.d x.a x.b x.c x.d
  rw [show decide (y.a = x.a ∧ y.b = x.b ∧ y.c = x.c ∧ y.d = x.d) = sameW y x from rfl, hq] at qq
  have qr := eqWord0 x.a x.b x.c x.d 0 0 0 0
  rw [show decide (x.a = 0 ∧ x.b = 0 ∧ x.c = 0 ∧ x.d = 0) = noW x from rfl, hr] at qr
  have qs := eqWord0 z.a z.b z.c z.d 0 0 0 0
  rw [show decide (z.a = 0 ∧ z.b = 0 ∧ z.c = 0 ∧ z.d = 0) = noW z from rfl, hs] at qs
  clear hp
  clear hq
  clear hr
  clear hs
  go_enter Try.func23, Try.ntmps23
  go_wp2_with fail
  go_ret3
  exact ⟨rfl, by go_grown⟩

set_option maxHeartbeats 1000000 in
set_option maxRecDepth 20000 in
theorem exact_4 (x y z : Vl) (w : World) (hp : sameW z y = false) (hq : sameW y x = false) (hr : noW x = true) (hu : sameW z x = true) :
    Calls Try.prog 23 #[.agg #[.int .u64 x.a, .int .u64 x.b, .int .u64 x.c, .int .u64 x.d], .agg #[.int .u64 y.a, .int .u64 y.b, .int .u64 y.c, .int .u64 y.d], .agg #[.int .u64 z.a, .int .u64 z.b, .int .u64 z.c, .int .u64 z.d]] w fun e w' => e = .returned (.tuple #[.int .u64 100, .int .u64 19900, .int .u64 0]) ∧ Below w.heap.size w w' := by
  have qp := eqWord0 z.a z.b z.c z.d y.a y.b y.c y.d
  rw [show decide (z.a = y.a ∧ z.b = y.b ∧ z.c = y.c ∧ z.d = y.d) = sameW z y from rfl, hp] at qp
  have qq := eqWord0 y.a y.b y.c y.d x.a x.b x.c x.d
  rw [show decide (y.a = x.a ∧ y.b = x.b ∧ y.c = x.c ∧ y.d = x.d) = sameW y x from rfl, hq] at qq
  have qr := eqWord0 x.a x.b x.c x.d 0 0 0 0
  rw [show decide (x.a = 0 ∧ x.b = 0 ∧ x.c = 0 ∧ x.d = 0) = noW x from rfl, hr] at qr
  have qu := eqWord0 z.a z.b z.c z.d x.a x.b x.c x.d
  rw [show decide (z.a = x.a ∧ z.b = x.b ∧ z.c = x.c ∧ z.d = x.d) = sameW z x from rfl, hu] at qu
  clear hp
  clear hq
  clear hr
  clear hu
  go_enter Try.func23, Try.ntmps23
  go_wp2_with fail
  go_ret3
  exact ⟨rfl, by go_grown⟩

set_option maxHeartbeats 1000000 in
set_option maxRecDepth 20000 in
theorem exact_5 (x y z : Vl) (w : World) (hp : sameW z y = false) (hq : sameW y x = false) (hr : noW x = true) (hu : sameW z x = false) :
    Calls Try.prog 23 #[.agg #[.int .u64 x.a, .int .u64 x.b, .int .u64 x.c, .int .u64 x.d], .agg #[.int .u64 y.a, .int .u64 y.b, .int .u64 y.c, .int .u64 y.d], .agg #[.int .u64 z.a, .int .u64 z.b, .int .u64 z.c, .int .u64 z.d]] w fun e w' => e = .returned (.tuple #[.int .u64 100, .int .u64 0, .int .u64 0]) ∧ Below w.heap.size w w' := by
  have qp := eqWord0 z.a z.b z.c z.d y.a y.b y.c y.d
  rw [show decide (z.a = y.a ∧ z.b = y.b ∧ z.c = y.c ∧ z.d = y.d) = sameW z y from rfl, hp] at qp
  have qq := eqWord0 y.a y.b y.c y.d x.a x.b x.c x.d
  rw [show decide (y.a = x.a ∧ y.b = x.b ∧ y.c = x.c ∧ y.d = x.d) = sameW y x from rfl, hq] at qq
  have qr := eqWord0 x.a x.b x.c x.d 0 0 0 0
  rw [show decide (x.a = 0 ∧ x.b = 0 ∧ x.c = 0 ∧ x.d = 0) = noW x from rfl, hr] at qr
  have qu := eqWord0 z.a z.b z.c z.d x.a x.b x.c x.d
  rw [show decide (z.a = x.a ∧ z.b = x.b ∧ z.c = x.c ∧ z.d = x.d) = sameW z x from rfl, hu] at qu
  clear hp
  clear hq
  clear hr
  clear hu
  go_enter Try.func23, Try.ntmps23
  go_wp2_with fail
  go_ret3
  exact ⟨rfl, by go_grown⟩

set_option maxHeartbeats 1000000 in
set_option maxRecDepth 20000 in
theorem exact_6 (x y z : Vl) (w : World) (hp : sameW z y = false) (hq : sameW y x = false) (hr : noW x = false) (hs : noW z = true) (ht : noW y = true) (hu : sameW z x = true) :
    Calls Try.prog 23 #[.agg #[.int .u64 x.a, .int .u64 x.b, .int .u64 x.c, .int .u64 x.d], .agg #[.int .u64 y.a, .int .u64 y.b, .int .u64 y.c, .int .u64 y.d], .agg #[.int .u64 z.a, .int .u64 z.b, .int .u64 z.c, .int .u64 z.d]] w fun e w' => e = .returned (.tuple #[.int .u64 100, .int .u64 7600, .int .u64 4800]) ∧ Below w.heap.size w w' := by
  have qp := eqWord0 z.a z.b z.c z.d y.a y.b y.c y.d
  rw [show decide (z.a = y.a ∧ z.b = y.b ∧ z.c = y.c ∧ z.d = y.d) = sameW z y from rfl, hp] at qp
  have qq := eqWord0 y.a y.b y.c y.d x.a x.b x.c x.d
  rw [show decide (y.a = x.a ∧ y.b = x.b ∧ y.c = x.c ∧ y.d = x.d) = sameW y x from rfl, hq] at qq
  have qr := eqWord0 x.a x.b x.c x.d 0 0 0 0
  rw [show decide (x.a = 0 ∧ x.b = 0 ∧ x.c = 0 ∧ x.d = 0) = noW x from rfl, hr] at qr
  have qs := eqWord0 z.a z.b z.c z.d 0 0 0 0
  rw [show decide (z.a = 0 ∧ z.b = 0 ∧ z.c = 0 ∧ z.d = 0) = noW z from rfl, hs] at qs
  have qt := eqWord0 y.a y.b y.c y.d 0 0 0 0
  rw [show decide (y.a = 0 ∧ y.b = 0 ∧ y.c = 0 ∧ y.d = 0) = noW y from rfl, ht] at qt
  have qu := eqWord0 z.a z.b z.c z.d x.a x.b x.c x.d
  rw [show decide (z.a = x.a ∧ z.b = x.b ∧ z.c = x.c ∧ z.d = x.d) = sameW z x from rfl, hu] at qu
  clear hp
  clear hq
  clear hr
  clear hs
  clear ht
  clear hu
  go_enter Try.func23, Try.ntmps23
  go_wp2_with fail
  go_ret3
  exact ⟨rfl, by go_grown⟩

set_option maxHeartbeats 1000000 in
set_option maxRecDepth 20000 in
theorem exact_7 (x y z : Vl) (w : World) (hp : sameW z y = false) (hq : sameW y x = false) (hr : noW x = false) (hs : noW z = true) (ht : noW y = true) (hu : sameW z x = false) :
    Calls Try.prog 23 #[.agg #[.int .u64 x.a, .int .u64 x.b, .int .u64 x.c, .int .u64 x.d], .agg #[.int .u64 y.a, .int .u64 y.b, .int .u64 y.c, .int .u64 y.d], .agg #[.int .u64 z.a, .int .u64 z.b, .int .u64 z.c, .int .u64 z.d]] w fun e w' => e = .returned (.tuple #[.int .u64 100, .int .u64 4800, .int .u64 4800]) ∧ Below w.heap.size w w' := by
  have qp := eqWord0 z.a z.b z.c z.d y.a y.b y.c y.d
  rw [show decide (z.a = y.a ∧ z.b = y.b ∧ z.c = y.c ∧ z.d = y.d) = sameW z y from rfl, hp] at qp
  have qq := eqWord0 y.a y.b y.c y.d x.a x.b x.c x.d
  rw [show decide (y.a = x.a ∧ y.b = x.b ∧ y.c = x.c ∧ y.d = x.d) = sameW y x from rfl, hq] at qq
  have qr := eqWord0 x.a x.b x.c x.d 0 0 0 0
  rw [show decide (x.a = 0 ∧ x.b = 0 ∧ x.c = 0 ∧ x.d = 0) = noW x from rfl, hr] at qr
  have qs := eqWord0 z.a z.b z.c z.d 0 0 0 0
  rw [show decide (z.a = 0 ∧ z.b = 0 ∧ z.c = 0 ∧ z.d = 0) = noW z from rfl, hs] at qs
  have qt := eqWord0 y.a y.b y.c y.d 0 0 0 0
  rw [show decide (y.a = 0 ∧ y.b = 0 ∧ y.c = 0 ∧ y.d = 0) = noW y from rfl, ht] at qt
  have qu := eqWord0 z.a z.b z.c z.d x.a x.b x.c x.d
  rw [show decide (z.a = x.a ∧ z.b = x.b ∧ z.c = x.c ∧ z.d = x.d) = sameW z x from rfl, hu] at qu
  clear hp
  clear hq
  clear hr
  clear hs
  clear ht
  clear hu
  go_enter Try.func23, Try.ntmps23
  go_wp2_with fail
  go_ret3
  exact ⟨rfl, by go_grown⟩

set_option maxHeartbeats 1000000 in
set_option maxRecDepth 20000 in
theorem exact_8 (x y z : Vl) (w : World) (hp : sameW z y = false) (hq : sameW y x = false) (hr : noW x = false) (hs : noW z = true) (ht : noW y = false) (hu : sameW z x = true) :
    Calls Try.prog 23 #[.agg #[.int .u64 x.a, .int .u64 x.b, .int .u64 x.c, .int .u64 x.d], .agg #[.int .u64 y.a, .int .u64 y.b, .int .u64 y.c, .int .u64 y.d], .agg #[.int .u64 z.a, .int .u64 z.b, .int .u64 z.c, .int .u64 z.d]] w fun e w' => e = .returned (.tuple #[.int .u64 100, .int .u64 7600, .int .u64 0]) ∧ Below w.heap.size w w' := by
  have qp := eqWord0 z.a z.b z.c z.d y.a y.b y.c y.d
  rw [show decide (z.a = y.a ∧ z.b = y.b ∧ z.c = y.c ∧ z.d = y.d) = sameW z y from rfl, hp] at qp
  have qq := eqWord0 y.a y.b y.c y.d x.a x.b x.c x.d
  rw [show decide (y.a = x.a ∧ y.b = x.b ∧ y.c = x.c ∧ y.d = x.d) = sameW y x from rfl, hq] at qq
  have qr := eqWord0 x.a x.b x.c x.d 0 0 0 0
  rw [show decide (x.a = 0 ∧ x.b = 0 ∧ x.c = 0 ∧ x.d = 0) = noW x from rfl, hr] at qr
  have qs := eqWord0 z.a z.b z.c z.d 0 0 0 0
  rw [show decide (z.a = 0 ∧ z.b = 0 ∧ z.c = 0 ∧ z.d = 0) = noW z from rfl, hs] at qs
  have qt := eqWord0 y.a y.b y.c y.d 0 0 0 0
  rw [show decide (y.a = 0 ∧ y.b = 0 ∧ y.c = 0 ∧ y.d = 0) = noW y from rfl, ht] at qt
  have qu := eqWord0 z.a z.b z.c z.d x.a x.b x.c x.d
  rw [show decide (z.a = x.a ∧ z.b = x.b ∧ z.c = x.c ∧ z.d = x.d) = sameW z x from rfl, hu] at qu
  clear hp
  clear hq
  clear hr
  clear hs
  clear ht
  clear hu
  go_enter Try.func23, Try.ntmps23
  go_wp2_with fail
  go_ret3
  exact ⟨rfl, by go_grown⟩

set_option maxHeartbeats 1000000 in
set_option maxRecDepth 20000 in
theorem exact_9 (x y z : Vl) (w : World) (hp : sameW z y = false) (hq : sameW y x = false) (hr : noW x = false) (hs : noW z = true) (ht : noW y = false) (hu : sameW z x = false) :
    Calls Try.prog 23 #[.agg #[.int .u64 x.a, .int .u64 x.b, .int .u64 x.c, .int .u64 x.d], .agg #[.int .u64 y.a, .int .u64 y.b, .int .u64 y.c, .int .u64 y.d], .agg #[.int .u64 z.a, .int .u64 z.b, .int .u64 z.c, .int .u64 z.d]] w fun e w' => e = .returned (.tuple #[.int .u64 100, .int .u64 4800, .int .u64 0]) ∧ Below w.heap.size w w' := by
  have qp := eqWord0 z.a z.b z.c z.d y.a y.b y.c y.d
  rw [show decide (z.a = y.a ∧ z.b = y.b ∧ z.c = y.c ∧ z.d = y.d) = sameW z y from rfl, hp] at qp
  have qq := eqWord0 y.a y.b y.c y.d x.a x.b x.c x.d
  rw [show decide (y.a = x.a ∧ y.b = x.b ∧ y.c = x.c ∧ y.d = x.d) = sameW y x from rfl, hq] at qq
  have qr := eqWord0 x.a x.b x.c x.d 0 0 0 0
  rw [show decide (x.a = 0 ∧ x.b = 0 ∧ x.c = 0 ∧ x.d = 0) = noW x from rfl, hr] at qr
  have qs := eqWord0 z.a z.b z.c z.d 0 0 0 0
  rw [show decide (z.a = 0 ∧ z.b = 0 ∧ z.c = 0 ∧ z.d = 0) = noW z from rfl, hs] at qs
  have qt := eqWord0 y.a y.b y.c y.d 0 0 0 0
  rw [show decide (y.a = 0 ∧ y.b = 0 ∧ y.c = 0 ∧ y.d = 0) = noW y from rfl, ht] at qt
  have qu := eqWord0 z.a z.b z.c z.d x.a x.b x.c x.d
  rw [show decide (z.a = x.a ∧ z.b = x.b ∧ z.c = x.c ∧ z.d = x.d) = sameW z x from rfl, hu] at qu
  clear hp
  clear hq
  clear hr
  clear hs
  clear ht
  clear hu
  go_enter Try.func23, Try.ntmps23
  go_wp2_with fail
  go_ret3
  exact ⟨rfl, by go_grown⟩

set_option maxHeartbeats 1000000 in
set_option maxRecDepth 20000 in
theorem exact_10 (x y z : Vl) (w : World) (hp : sameW z y = false) (hq : sameW y x = false) (hr : noW x = false) (hs : noW z = false) (ht : noW y = true) (hu : sameW z x = true) :
    Calls Try.prog 23 #[.agg #[.int .u64 x.a, .int .u64 x.b, .int .u64 x.c, .int .u64 x.d], .agg #[.int .u64 y.a, .int .u64 y.b, .int .u64 y.c, .int .u64 y.d], .agg #[.int .u64 z.a, .int .u64 z.b, .int .u64 z.c, .int .u64 z.d]] w fun e w' => e = .returned (.tuple #[.int .u64 100, .int .u64 2800, .int .u64 4800]) ∧ Below w.heap.size w w' := by
  have qp := eqWord0 z.a z.b z.c z.d y.a y.b y.c y.d
  rw [show decide (z.a = y.a ∧ z.b = y.b ∧ z.c = y.c ∧ z.d = y.d) = sameW z y from rfl, hp] at qp
  have qq := eqWord0 y.a y.b y.c y.d x.a x.b x.c x.d
  rw [show decide (y.a = x.a ∧ y.b = x.b ∧ y.c = x.c ∧ y.d = x.d) = sameW y x from rfl, hq] at qq
  have qr := eqWord0 x.a x.b x.c x.d 0 0 0 0
  rw [show decide (x.a = 0 ∧ x.b = 0 ∧ x.c = 0 ∧ x.d = 0) = noW x from rfl, hr] at qr
  have qs := eqWord0 z.a z.b z.c z.d 0 0 0 0
  rw [show decide (z.a = 0 ∧ z.b = 0 ∧ z.c = 0 ∧ z.d = 0) = noW z from rfl, hs] at qs
  have qt := eqWord0 y.a y.b y.c y.d 0 0 0 0
  rw [show decide (y.a = 0 ∧ y.b = 0 ∧ y.c = 0 ∧ y.d = 0) = noW y from rfl, ht] at qt
  have qu := eqWord0 z.a z.b z.c z.d x.a x.b x.c x.d
  rw [show decide (z.a = x.a ∧ z.b = x.b ∧ z.c = x.c ∧ z.d = x.d) = sameW z x from rfl, hu] at qu
  clear hp
  clear hq
  clear hr
  clear hs
  clear ht
  clear hu
  go_enter Try.func23, Try.ntmps23
  go_wp2_with fail
  go_ret3
  exact ⟨rfl, by go_grown⟩

set_option maxHeartbeats 1000000 in
set_option maxRecDepth 20000 in
theorem exact_11 (x y z : Vl) (w : World) (hp : sameW z y = false) (hq : sameW y x = false) (hr : noW x = false) (hs : noW z = false) (ht : noW y = true) (hu : sameW z x = false) :
    Calls Try.prog 23 #[.agg #[.int .u64 x.a, .int .u64 x.b, .int .u64 x.c, .int .u64 x.d], .agg #[.int .u64 y.a, .int .u64 y.b, .int .u64 y.c, .int .u64 y.d], .agg #[.int .u64 z.a, .int .u64 z.b, .int .u64 z.c, .int .u64 z.d]] w fun e w' => e = .returned (.tuple #[.int .u64 100, .int .u64 0, .int .u64 4800]) ∧ Below w.heap.size w w' := by
  have qp := eqWord0 z.a z.b z.c z.d y.a y.b y.c y.d
  rw [show decide (z.a = y.a ∧ z.b = y.b ∧ z.c = y.c ∧ z.d = y.d) = sameW z y from rfl, hp] at qp
  have qq := eqWord0 y.a y.b y.c y.d x.a x.b x.c x.d
  rw [show decide (y.a = x.a ∧ y.b = x.b ∧ y.c = x.c ∧ y.d = x.d) = sameW y x from rfl, hq] at qq
  have qr := eqWord0 x.a x.b x.c x.d 0 0 0 0
  rw [show decide (x.a = 0 ∧ x.b = 0 ∧ x.c = 0 ∧ x.d = 0) = noW x from rfl, hr] at qr
  have qs := eqWord0 z.a z.b z.c z.d 0 0 0 0
  rw [show decide (z.a = 0 ∧ z.b = 0 ∧ z.c = 0 ∧ z.d = 0) = noW z from rfl, hs] at qs
  have qt := eqWord0 y.a y.b y.c y.d 0 0 0 0
  rw [show decide (y.a = 0 ∧ y.b = 0 ∧ y.c = 0 ∧ y.d = 0) = noW y from rfl, ht] at qt
  have qu := eqWord0 z.a z.b z.c z.d x.a x.b x.c x.d
  rw [show decide (z.a = x.a ∧ z.b = x.b ∧ z.c = x.c ∧ z.d = x.d) = sameW z x from rfl, hu] at qu
  clear hp
  clear hq
  clear hr
  clear hs
  clear ht
  clear hu
  go_enter Try.func23, Try.ntmps23
  go_wp2_with fail
  go_ret3
  exact ⟨rfl, by go_grown⟩

set_option maxHeartbeats 1000000 in
set_option maxRecDepth 20000 in
theorem exact_12 (x y z : Vl) (w : World) (hp : sameW z y = false) (hq : sameW y x = false) (hr : noW x = false) (hs : noW z = false) (ht : noW y = false) (hu : sameW z x = true) :
    Calls Try.prog 23 #[.agg #[.int .u64 x.a, .int .u64 x.b, .int .u64 x.c, .int .u64 x.d], .agg #[.int .u64 y.a, .int .u64 y.b, .int .u64 y.c, .int .u64 y.d], .agg #[.int .u64 z.a, .int .u64 z.b, .int .u64 z.c, .int .u64 z.d]] w fun e w' => e = .returned (.tuple #[.int .u64 100, .int .u64 2800, .int .u64 0]) ∧ Below w.heap.size w w' := by
  have qp := eqWord0 z.a z.b z.c z.d y.a y.b y.c y.d
  rw [show decide (z.a = y.a ∧ z.b = y.b ∧ z.c = y.c ∧ z.d = y.d) = sameW z y from rfl, hp] at qp
  have qq := eqWord0 y.a y.b y.c y.d x.a x.b x.c x.d
  rw [show decide (y.a = x.a ∧ y.b = x.b ∧ y.c = x.c ∧ y.d = x.d) = sameW y x from rfl, hq] at qq
  have qr := eqWord0 x.a x.b x.c x.d 0 0 0 0
  rw [show decide (x.a = 0 ∧ x.b = 0 ∧ x.c = 0 ∧ x.d = 0) = noW x from rfl, hr] at qr
  have qs := eqWord0 z.a z.b z.c z.d 0 0 0 0
  rw [show decide (z.a = 0 ∧ z.b = 0 ∧ z.c = 0 ∧ z.d = 0) = noW z from rfl, hs] at qs
  have qt := eqWord0 y.a y.b y.c y.d 0 0 0 0
  rw [show decide (y.a = 0 ∧ y.b = 0 ∧ y.c = 0 ∧ y.d = 0) = noW y from rfl, ht] at qt
  have qu := eqWord0 z.a z.b z.c z.d x.a x.b x.c x.d
  rw [show decide (z.a = x.a ∧ z.b = x.b ∧ z.c = x.c ∧ z.d = x.d) = sameW z x from rfl, hu] at qu
  clear hp
  clear hq
  clear hr
  clear hs
  clear ht
  clear hu
  go_enter Try.func23, Try.ntmps23
  go_wp2_with fail
  go_ret3
  exact ⟨rfl, by go_grown⟩

set_option maxHeartbeats 1000000 in
set_option maxRecDepth 20000 in
theorem exact_13 (x y z : Vl) (w : World) (hp : sameW z y = false) (hq : sameW y x = false) (hr : noW x = false) (hs : noW z = false) (ht : noW y = false) (hu : sameW z x = false) :
    Calls Try.prog 23 #[.agg #[.int .u64 x.a, .int .u64 x.b, .int .u64 x.c, .int .u64 x.d], .agg #[.int .u64 y.a, .int .u64 y.b, .int .u64 y.c, .int .u64 y.d], .agg #[.int .u64 z.a, .int .u64 z.b, .int .u64 z.c, .int .u64 z.d]] w fun e w' => e = .returned (.tuple #[.int .u64 100, .int .u64 0, .int .u64 0]) ∧ Below w.heap.size w w' := by
  have qp := eqWord0 z.a z.b z.c z.d y.a y.b y.c y.d
  rw [show decide (z.a = y.a ∧ z.b = y.b ∧ z.c = y.c ∧ z.d = y.d) = sameW z y from rfl, hp] at qp
  have qq := eqWord0 y.a y.b y.c y.d x.a x.b x.c x.d
  rw [show decide (y.a = x.a ∧ y.b = x.b ∧ y.c = x.c ∧ y.d = x.d) = sameW y x from rfl, hq] at qq
  have qr := eqWord0 x.a x.b x.c x.d 0 0 0 0
  rw [show decide (x.a = 0 ∧ x.b = 0 ∧ x.c = 0 ∧ x.d = 0) = noW x from rfl, hr] at qr
  have qs := eqWord0 z.a z.b z.c z.d 0 0 0 0
  rw [show decide (z.a = 0 ∧ z.b = 0 ∧ z.c = 0 ∧ z.d = 0) = noW z from rfl, hs] at qs
  have qt := eqWord0 y.a y.b y.c y.d 0 0 0 0
  rw [show decide (y.a = 0 ∧ y.b = 0 ∧ y.c = 0 ∧ y.d = 0) = noW y from rfl, ht] at qt
  have qu := eqWord0 z.a z.b z.c z.d x.a x.b x.c x.d
  rw [show decide (z.a = x.a ∧ z.b = x.b ∧ z.c = x.c ∧ z.d = x.d) = sameW z x from rfl, hu] at qu
  clear hp
  clear hq
  clear hr
  clear hs
  clear ht
  clear hu
  go_enter Try.func23, Try.ntmps23
  go_wp2_with fail
  go_ret3
  exact ⟨rfl, by go_grown⟩

theorem exact_any (x y z : Vl) (w : World) : Calls Try.prog 23 #[.agg #[.int .u64 x.a, .int .u64 x.b, .int .u64 x.c, .int .u64 x.d], .agg #[.int .u64 y.a, .int .u64 y.b, .int .u64 y.c, .int .u64 y.d], .agg #[.int .u64 z.a, .int .u64 z.b, .int .u64 z.c, .int .u64 z.d]] w fun e w' => e = .returned (.tuple #[.int .u64 (exC x y z), .int .u64 (exM x y z), .int .u64 (exL x y z)]) ∧ Below w.heap.size w w' := by
  rcases hp : sameW z y with _ | _
  · rcases hq : sameW y x with _ | _
    · rcases hr : noW x with _ | _
      · rcases hs : noW z with _ | _
        · rcases ht : noW y with _ | _
          · rcases hu : sameW z x with _ | _
            · have := exact_13 x y z w hp hq hr hs ht hu
              simp only [exC, exM, exL, hp, hq, hr, hs, ht, hu, Bool.and_self, Bool.and_true, Bool.and_false, Bool.true_and, Bool.false_and, Bool.not_true, Bool.not_false, Bool.false_eq_true, if_true, if_false]
              exact this
            · have := exact_12 x y z w hp hq hr hs ht hu
              simp only [exC, exM, exL, hp, hq, hr, hs, ht, hu, Bool.and_self, Bool.and_true, Bool.and_false, Bool.true_and, Bool.false_and, Bool.not_true, Bool.not_false, Bool.false_eq_true, if_true, if_false]
              exact this
          · rcases hu : sameW z x with _ | _
            · have := exact_11 x y z w hp hq hr hs ht hu
              simp only [exC, exM, exL, hp, hq, hr, hs, ht, hu, Bool.and_self, Bool.and_true, Bool.and_false, Bool.true_and, Bool.false_and, Bool.not_true, Bool.not_false, Bool.false_eq_true, if_true, if_false]
              exact this
            · have := exact_10 x y z w hp hq hr hs ht hu
              simp only [exC, exM, exL, hp, hq, hr, hs, ht, hu, Bool.and_self, Bool.and_true, Bool.and_false, Bool.true_and, Bool.false_and, Bool.not_true, Bool.not_false, Bool.false_eq_true, if_true, if_false]
              exact this
        · rcases ht : noW y with _ | _
          · rcases hu : sameW z x with _ | _
            · have := exact_9 x y z w hp hq hr hs ht hu
              simp only [exC, exM, exL, hp, hq, hr, hs, ht, hu, Bool.and_self, Bool.and_true, Bool.and_false, Bool.true_and, Bool.false_and, Bool.not_true, Bool.not_false, Bool.false_eq_true, if_true, if_false]
              exact this
            · have := exact_8 x y z w hp hq hr hs ht hu
              simp only [exC, exM, exL, hp, hq, hr, hs, ht, hu, Bool.and_self, Bool.and_true, Bool.and_false, Bool.true_and, Bool.false_and, Bool.not_true, Bool.not_false, Bool.false_eq_true, if_true, if_false]
              exact this
          · rcases hu : sameW z x with _ | _
            · have := exact_7 x y z w hp hq hr hs ht hu
              simp only [exC, exM, exL, hp, hq, hr, hs, ht, hu, Bool.and_self, Bool.and_true, Bool.and_false, Bool.true_and, Bool.false_and, Bool.not_true, Bool.not_false, Bool.false_eq_true, if_true, if_false]
              exact this
            · have := exact_6 x y z w hp hq hr hs ht hu
              simp only [exC, exM, exL, hp, hq, hr, hs, ht, hu, Bool.and_self, Bool.and_true, Bool.and_false, Bool.true_and, Bool.false_and, Bool.not_true, Bool.not_false, Bool.false_eq_true, if_true, if_false]
              exact this
      · rcases hu : sameW z x with _ | _
        · have := exact_5 x y z w hp hq hr hu
          simp only [exC, exM, exL, hp, hq, hr, hu, Bool.and_self, Bool.and_true, Bool.and_false, Bool.true_and, Bool.false_and, Bool.not_true, Bool.not_false, Bool.false_eq_true, if_true, if_false]
          exact this
        · have := exact_4 x y z w hp hq hr hu
          simp only [exC, exM, exL, hp, hq, hr, hu, Bool.and_self, Bool.and_true, Bool.and_false, Bool.true_and, Bool.false_and, Bool.not_true, Bool.not_false, Bool.false_eq_true, if_true, if_false]
          exact this
    · rcases hr : noW x with _ | _
      · rcases hs : noW z with _ | _
        · have := exact_3 x y z w hp hq hr hs
          simp only [exC, exM, exL, hp, hq, hr, hs, Bool.and_self, Bool.and_true, Bool.and_false, Bool.true_and, Bool.false_and, Bool.not_true, Bool.not_false, Bool.false_eq_true, if_true, if_false]
          exact this
        · have := exact_2 x y z w hp hq hr hs
          simp only [exC, exM, exL, hp, hq, hr, hs, Bool.and_self, Bool.and_true, Bool.and_false, Bool.true_and, Bool.false_and, Bool.not_true, Bool.not_false, Bool.false_eq_true, if_true, if_false]
          exact this
      · have := exact_1 x y z w hp hq hr
        simp only [exC, exM, exL, hp, hq, hr, Bool.and_self, Bool.and_true, Bool.and_false, Bool.true_and, Bool.false_and, Bool.not_true, Bool.not_false, Bool.false_eq_true, if_true, if_false]
        exact this
  · have := exact_0 x y z w hp
    simp only [exC, exM, exL, hp, Bool.and_self, Bool.and_true, Bool.and_false, Bool.true_and, Bool.false_and, Bool.not_true, Bool.not_false, Bool.false_eq_true, if_true, if_false]
    exact this

set_option maxHeartbeats 1000000 in
set_option maxRecDepth 20000 in
theorem fixed_any (n : Int) (w : World)  :
    Calls Try.prog 25 #[.int .u64 n] w fun e w' => e = .returned (.agg #[.int .u64 n, .int .u64 n, .int .u64 n, .int .u64 0]) ∧ Below w.heap.size w w' := by
  go_enter Try.func25, Try.ntmps25
  go_wp2_with fail
  refine bodyPost_ret (v := .agg #[.int .u64 n, .int .u64 n, .int .u64 n, .int .u64 0]) (by simp [results, Try.results25, go_sem, *]) rfl ?_
  exact ⟨rfl, by go_grown⟩

set_option maxHeartbeats 1000000 in
set_option maxRecDepth 20000 in
theorem refAddr_T  (w : World)  :
    Calls Try.prog 9 #[.bool true] w fun e w' => e = .returned (.int .u64 2600) ∧ Below w.heap.size w w' := by
  go_enter Try.func9, Try.ntmps9
  go_wp2_with fail
  go_ret
  exact ⟨rfl, by go_grown⟩

set_option maxHeartbeats 1000000 in
set_option maxRecDepth 20000 in
theorem refSlot_T  (w : World)  :
    Calls Try.prog 11 #[.bool true] w fun e w' => e = .returned (.int .u64 2100) ∧ Below w.heap.size w w' := by
  go_enter Try.func11, Try.ntmps11
  go_wp2_with fail
  go_ret
  exact ⟨rfl, by go_grown⟩

set_option maxHeartbeats 1000000 in
set_option maxRecDepth 20000 in
theorem refAddr_F  (w : World)  :
    Calls Try.prog 9 #[.bool false] w fun e w' => e = .returned (.int .u64 100) ∧ Below w.heap.size w w' := by
  go_enter Try.func9, Try.ntmps9
  go_wp2_with fail
  go_ret
  exact ⟨rfl, by go_grown⟩

set_option maxHeartbeats 1000000 in
set_option maxRecDepth 20000 in
theorem refSlot_F  (w : World)  :
    Calls Try.prog 11 #[.bool false] w fun e w' => e = .returned (.int .u64 100) ∧ Below w.heap.size w w' := by
  go_enter Try.func11, Try.ntmps11
  go_wp2_with fail
  go_ret
  exact ⟨rfl, by go_grown⟩

set_option maxHeartbeats 1000000 in
set_option maxRecDepth 20000 in
theorem refChange_Tl (x y z : Vl) (n m l a : Int) (w : World) (hx : ∀ V, Calls Try.prog 23 #[.agg #[.int .u64 x.a, .int .u64 x.b, .int .u64 x.c, .int .u64 x.d], .agg #[.int .u64 y.a, .int .u64 y.b, .int .u64 y.c, .int .u64 y.d], .agg #[.int .u64 z.a, .int .u64 z.b, .int .u64 z.c, .int .u64 z.d]] V fun e w' => e = .returned (.tuple #[.int .u64 n, .int .u64 m, .int .u64 l]) ∧ Below V.heap.size V w') (hn0 : 0 ≤ n) (hn1 : n ≤ 20000) (hl0 : bits .or .u64 (bits .or .u64 x.l y.l) z.l = a) (ha : ¬ a = 0) :
    Calls Try.prog 7 #[.bool true, .agg #[.int .u64 x.a, .int .u64 x.b, .int .u64 x.c, .int .u64 x.d, .int .u64 x.l], .agg #[.int .u64 y.a, .int .u64 y.b, .int .u64 y.c, .int .u64 y.d, .int .u64 y.l], .agg #[.int .u64 z.a, .int .u64 z.b, .int .u64 z.c, .int .u64 z.d, .int .u64 z.l]] w fun e w' => e = .returned (.tuple #[.agg #[.int .u64 (n + 2100), .int .u64 2200, .int .u64 22100, .int .u64 a], .agg #[.int .u64 m, .int .u64 0, .int .u64 19900, .int .u64 a], .agg #[.int .u64 l, .int .u64 0, .int .u64 4800, .int .u64 a]]) ∧ Below w.heap.size w w' := by
  have HX := Lib.hid hx
  clear hx
  have hj := fun V : World => refJoin_any (bits .or .u64 x.l y.l) z.l V
  rw [hl0] at hj
  have HJ := Lib.hid hj
  clear hj hl0
  have ha' : ¬ a = 0 := ha
  go_enter Try.func7, Try.ntmps7
  go_wp2_with fail
  refine (HX.out _).mono ?_
  rintro e w1 ⟨rfl, hb1⟩
  have O1 := Own.grow' hb1 (Own.new (Own.new (Own.new (Own.new (Own.new (Own.new (Own.nil w) (w.heap.size) (by first | rfl | simp)) (w.heap.size + 1) (by simp)) (w.heap.size + 1 + 1) (by simp)) (w.heap.size + 1 + 1 + 1) (by simp)) (w.heap.size + 1 + 1 + 1 + 1) (by simp)) (w.heap.size + 1 + 1 + 1 + 1 + 1) (by simp))
  try simp only [List.setIfInBounds_toArray, List.set_cons_zero, List.set_cons_succ] at O1
  have bw1 : Below w.heap.size w w1 := Below.trans (by go_grown) (Below.mono hb1 (by first | omega | (simp; done) | (simp; omega)))
  have zw1 := Below.size hb1
  try simp only [World.size_alloc, World.size_drew, World.size_setCell] at zw1
  have c1x0 := Own.cell O1 0 rfl
  have f1x0 := Own.free O1 0 rfl
  have l1x0 := Own.lt O1 0 rfl
  have l1x0d0 := le_up 0 l1x0
  have l1x0d1 := le_up 1 l1x0
  simp only [upN] at l1x0d0 l1x0d1
  have c1x1 := Own.cell O1 1 rfl
  have f1x1 := Own.free O1 1 rfl
  have l1x1 := Own.lt O1 1 rfl
  have l1x1d0 := le_up 0 l1x1
  have l1x1d1 := le_up 1 l1x1
  simp only [upN] at l1x1d0 l1x1d1
  have c1x2 := Own.cell O1 2 rfl
  have f1x2 := Own.free O1 2 rfl
  have l1x2 := Own.lt O1 2 rfl
  have l1x2d0 := le_up 0 l1x2
  have l1x2d1 := le_up 1 l1x2
  simp only [upN] at l1x2d0 l1x2d1
  have c1x3 := Own.cell O1 3 rfl
  have f1x3 := Own.free O1 3 rfl
  have l1x3 := Own.lt O1 3 rfl
  have l1x3d0 := le_up 0 l1x3
  have l1x3d1 := le_up 1 l1x3
  simp only [upN] at l1x3d0 l1x3d1
  have c1x4 := Own.cell O1 4 rfl
  have f1x4 := Own.free O1 4 rfl
  have l1x4 := Own.lt O1 4 rfl
  have l1x4d0 := le_up 0 l1x4
  have l1x4d1 := le_up 1 l1x4
  simp only [upN] at l1x4d0 l1x4d1
  have c1x5 := Own.cell O1 5 rfl
  have f1x5 := Own.free O1 5 rfl
  have l1x5 := Own.lt O1 5 rfl
  have l1x5d0 := le_up 0 l1x5
  have l1x5d1 := le_up 1 l1x5
  simp only [upN] at l1x5d0 l1x5d1
  have HO1 := Lib.hid O1
  clear O1 hb1
  go_wp2_with fail
  refine wp_region_grow w.heap.size 8 0 0 [(0, 0, 268435456, 32), (1, 1, 536870912, 268435456), (2, 0, 1073741824, 64), (3, 4, 2147483648, 1073741824), (4, 10, 4294967296, 2684354560), (5, 0, 8589934592, 128), (6, 32, 17179869184, 8589934592), (7, 80, 34359738368, 21474836480), (8, 255, 32768, 34359738368)] [(.p 0, 1), (.p 1, 3), (.p 2, 7), (.p 3, 15), (.p 4, 31), (.p 5, 63), (.p 6, 127), (.p 7, 255)] [(8, 511)] _ (fun p hp => hp) (by first | omega | (simp; done) | (simp; omega)) (by kernel_rfl) (by kernel_rfl) HO1.out ?_
  refine wpG_pure (i := 0) (v := ?v2x0) rfl rfl (by rfl) (fun w hB hG K hK => ?h2x0) ?_
  case h2x0 =>
    go_wp2_with fail
    exact hK _ (Below.refl _ _)
  simp only [List.set_cons_zero, List.set_cons_succ]
  refine wpG_pure (i := 1) (v := ?v2x1) rfl rfl (by rfl) (fun w hB hG K hK => ?h2x1) ?_
  case h2x1 =>
    have cx := Own.cell hG 5 rfl
    go_wp2_with fail
    exact hK _ (Below.refl _ _)
  simp only [List.set_cons_zero, List.set_cons_succ]
  refine wpG_pure (i := 2) (v := ?v2x2) rfl rfl (by rfl) (fun w hB hG K hK => ?h2x2) ?_
  case h2x2 =>
    go_wp2_with fail
    exact hK _ (Below.refl _ _)
  simp only [List.set_cons_zero, List.set_cons_succ]
  refine wpG_pure (i := 3) (v := ?v2x3) rfl rfl (by rfl) (fun w hB hG K hK => ?h2x3) ?_
  case h2x3 =>
    have cx := Own.cell hG 4 rfl
    go_wp2_with fail
    exact hK _ (Below.refl _ _)
  simp only [List.set_cons_zero, List.set_cons_succ]
  refine wpG_pure (i := 4) (v := ?v2x4) rfl rfl (by rfl) (fun w hB hG K hK => ?h2x4) ?_
  case h2x4 =>
    go_wp2_with fail
    refine (refJoin_any _ _ _).mono ?_
    rintro e wx ⟨rfl, rfl⟩
    exact hK _ (Below.refl _ _)
  simp only [List.set_cons_zero, List.set_cons_succ]
  refine wpG_pure (i := 5) (v := ?v2x5) rfl rfl (by rfl) (fun w hB hG K hK => ?h2x5) ?_
  case h2x5 =>
    go_wp2_with fail
    exact hK _ (Below.refl _ _)
  simp only [List.set_cons_zero, List.set_cons_succ]
  refine wpG_pure (i := 6) (v := ?v2x6) rfl rfl (by rfl) (fun w hB hG K hK => ?h2x6) ?_
  case h2x6 =>
    have cx := Own.cell hG 3 rfl
    go_wp2_with fail
    exact hK _ (Below.refl _ _)
  simp only [List.set_cons_zero, List.set_cons_succ]
  refine wpG_pure (i := 7) (v := ?v2x7) rfl rfl (by rfl) (fun w hB hG K hK => ?h2x7) ?_
  case h2x7 =>
    go_wp2_with fail
    refine (HJ.out _).mono ?_
    rintro e wx ⟨rfl, rfl⟩
    exact hK _ (Below.refl _ _)
  simp only [List.set_cons_zero, List.set_cons_succ]
  refine wpG_nil (fun w2 hb2 hG2 => ?_)
  simp only [List.append_eq, List.cons_append, List.nil_append, List.drop_succ_cons, List.drop_zero, List.drop_nil]
  have O2 := Own.of hG2
  try simp only [List.setIfInBounds_toArray, List.set_cons_zero, List.set_cons_succ] at O2
  have bw2 : Below w.heap.size w w2 := Below.trans (by go_grown) (Below.mono hb2 (by first | omega | (simp; done) | (simp; omega)))
  have zw2 := Below.size hb2
  try simp only [World.size_alloc, World.size_drew, World.size_setCell] at zw2
  clear c1x0 f1x0 l1x0 l1x0d0 l1x0d1 c1x1 f1x1 l1x1 l1x1d0 l1x1d1 c1x2 f1x2 l1x2 l1x2d0 l1x2d1 c1x3 f1x3 l1x3 l1x3d0 l1x3d1 c1x4 f1x4 l1x4 l1x4d0 l1x4d1 c1x5 f1x5 l1x5 l1x5d0 l1x5d1
  have c2x0 := Own.cell O2 0 rfl
  have f2x0 := Own.free O2 0 rfl
  have l2x0 := Own.lt O2 0 rfl
  have l2x0d0 := le_up 0 l2x0
  have l2x0d1 := le_up 1 l2x0
  simp only [upN] at l2x0d0 l2x0d1
  have c2x1 := Own.cell O2 1 rfl
  have f2x1 := Own.free O2 1 rfl
  have l2x1 := Own.lt O2 1 rfl
  have l2x1d0 := le_up 0 l2x1
  have l2x1d1 := le_up 1 l2x1
  simp only [upN] at l2x1d0 l2x1d1
  have c2x2 := Own.cell O2 2 rfl
  have f2x2 := Own.free O2 2 rfl
  have l2x2 := Own.lt O2 2 rfl
  have l2x2d0 := le_up 0 l2x2
  have l2x2d1 := le_up 1 l2x2
  simp only [upN] at l2x2d0 l2x2d1
  have c2x3 := Own.cell O2 3 rfl
  have f2x3 := Own.free O2 3 rfl
  have l2x3 := Own.lt O2 3 rfl
  have l2x3d0 := le_up 0 l2x3
  have l2x3d1 := le_up 1 l2x3
  simp only [upN] at l2x3d0 l2x3d1
  have c2x4 := Own.cell O2 4 rfl
  have f2x4 := Own.free O2 4 rfl
  have l2x4 := Own.lt O2 4 rfl
  have l2x4d0 := le_up 0 l2x4
  have l2x4d1 := le_up 1 l2x4
  simp only [upN] at l2x4d0 l2x4d1
  have c2x5 := Own.cell O2 5 rfl
  have f2x5 := Own.free O2 5 rfl
  have l2x5 := Own.lt O2 5 rfl
  have l2x5d0 := le_up 0 l2x5
  have l2x5d1 := le_up 1 l2x5
  simp only [upN] at l2x5d0 l2x5d1
  have HO2 := Lib.hid O2
  clear O2 hb2
  go_wp2_with fail
  refine bodyPost_ret (v := .tuple #[.agg #[.int .u64 (n + 2100), .int .u64 2200, .int .u64 22100, .int .u64 a], .agg #[.int .u64 m, .int .u64 0, .int .u64 19900, .int .u64 a], .agg #[.int .u64 l, .int .u64 0, .int .u64 4800, .int .u64 a]]) (by simp [results, Try.results7, go_sem, *]) rfl ?_
  exact ⟨rfl, by go_grown⟩

set_option maxHeartbeats 1000000 in
set_option maxRecDepth 20000 in
theorem refChange_Tz (x y z : Vl) (n m l a : Int) (w : World) (hx : ∀ V, Calls Try.prog 23 #[.agg #[.int .u64 x.a, .int .u64 x.b, .int .u64 x.c, .int .u64 x.d], .agg #[.int .u64 y.a, .int .u64 y.b, .int .u64 y.c, .int .u64 y.d], .agg #[.int .u64 z.a, .int .u64 z.b, .int .u64 z.c, .int .u64 z.d]] V fun e w' => e = .returned (.tuple #[.int .u64 n, .int .u64 m, .int .u64 l]) ∧ Below V.heap.size V w') (hn0 : 0 ≤ n) (hn1 : n ≤ 20000) (hl0 : bits .or .u64 (bits .or .u64 x.l y.l) z.l = a) (ha : a = 0) :
    Calls Try.prog 7 #[.bool true, .agg #[.int .u64 x.a, .int .u64 x.b, .int .u64 x.c, .int .u64 x.d, .int .u64 x.l], .agg #[.int .u64 y.a, .int .u64 y.b, .int .u64 y.c, .int .u64 y.d, .int .u64 y.l], .agg #[.int .u64 z.a, .int .u64 z.b, .int .u64 z.c, .int .u64 z.d, .int .u64 z.l]] w fun e w' => e = .returned (.tuple #[.agg #[.int .u64 (n + 2100), .int .u64 (n + 2100), .int .u64 (n + 2100), .int .u64 0], .agg #[.int .u64 m, .int .u64 m, .int .u64 m, .int .u64 0], .agg #[.int .u64 l, .int .u64 l, .int .u64 l, .int .u64 0]]) ∧ Below w.heap.size w w' := by
  have HX := Lib.hid hx
  clear hx
  have hj := fun V : World => refJoin_any (bits .or .u64 x.l y.l) z.l V
  rw [hl0] at hj
  have HJ := Lib.hid hj
  clear hj hl0
  subst ha
  go_enter Try.func7, Try.ntmps7
  go_wp2_with fail
  refine (HX.out _).mono ?_
  rintro e w1 ⟨rfl, hb1⟩
  have O1 := Own.grow' hb1 (Own.new (Own.new (Own.new (Own.new (Own.new (Own.new (Own.nil w) (w.heap.size) (by first | rfl | simp)) (w.heap.size + 1) (by simp)) (w.heap.size + 1 + 1) (by simp)) (w.heap.size + 1 + 1 + 1) (by simp)) (w.heap.size + 1 + 1 + 1 + 1) (by simp)) (w.heap.size + 1 + 1 + 1 + 1 + 1) (by simp))
  try simp only [List.setIfInBounds_toArray, List.set_cons_zero, List.set_cons_succ] at O1
  have bw1 : Below w.heap.size w w1 := Below.trans (by go_grown) (Below.mono hb1 (by first | omega | (simp; done) | (simp; omega)))
  have zw1 := Below.size hb1
  try simp only [World.size_alloc, World.size_drew, World.size_setCell] at zw1
  have c1x0 := Own.cell O1 0 rfl
  have f1x0 := Own.free O1 0 rfl
  have l1x0 := Own.lt O1 0 rfl
  have l1x0d0 := le_up 0 l1x0
  have l1x0d1 := le_up 1 l1x0
  simp only [upN] at l1x0d0 l1x0d1
  have c1x1 := Own.cell O1 1 rfl
  have f1x1 := Own.free O1 1 rfl
  have l1x1 := Own.lt O1 1 rfl
  have l1x1d0 := le_up 0 l1x1
  have l1x1d1 := le_up 1 l1x1
  simp only [upN] at l1x1d0 l1x1d1
  have c1x2 := Own.cell O1 2 rfl
  have f1x2 := Own.free O1 2 rfl
  have l1x2 := Own.lt O1 2 rfl
  have l1x2d0 := le_up 0 l1x2
  have l1x2d1 := le_up 1 l1x2
  simp only [upN] at l1x2d0 l1x2d1
  have c1x3 := Own.cell O1 3 rfl
  have f1x3 := Own.free O1 3 rfl
  have l1x3 := Own.lt O1 3 rfl
  have l1x3d0 := le_up 0 l1x3
  have l1x3d1 := le_up 1 l1x3
  simp only [upN] at l1x3d0 l1x3d1
  have c1x4 := Own.cell O1 4 rfl
  have f1x4 := Own.free O1 4 rfl
  have l1x4 := Own.lt O1 4 rfl
  have l1x4d0 := le_up 0 l1x4
  have l1x4d1 := le_up 1 l1x4
  simp only [upN] at l1x4d0 l1x4d1
  have c1x5 := Own.cell O1 5 rfl
  have f1x5 := Own.free O1 5 rfl
  have l1x5 := Own.lt O1 5 rfl
  have l1x5d0 := le_up 0 l1x5
  have l1x5d1 := le_up 1 l1x5
  simp only [upN] at l1x5d0 l1x5d1
  have HO1 := Lib.hid O1
  clear O1 hb1
  go_wp2_with fail
  refine wp_region_grow w.heap.size 8 0 0 [(0, 0, 268435456, 32), (1, 1, 536870912, 268435456), (2, 0, 1073741824, 64), (3, 4, 2147483648, 1073741824), (4, 10, 4294967296, 2684354560), (5, 0, 8589934592, 128), (6, 32, 17179869184, 8589934592), (7, 80, 34359738368, 21474836480), (8, 255, 32768, 34359738368)] [(.p 0, 1), (.p 1, 3), (.p 2, 7), (.p 3, 15), (.p 4, 31), (.p 5, 63), (.p 6, 127), (.p 7, 255)] [(8, 511)] _ (fun p hp => hp) (by first | omega | (simp; done) | (simp; omega)) (by kernel_rfl) (by kernel_rfl) HO1.out ?_
  refine wpG_pure (i := 0) (v := ?v2x0) rfl rfl (by rfl) (fun w hB hG K hK => ?h2x0) ?_
  case h2x0 =>
    go_wp2_with fail
    exact hK _ (Below.refl _ _)
  simp only [List.set_cons_zero, List.set_cons_succ]
  refine wpG_pure (i := 1) (v := ?v2x1) rfl rfl (by rfl) (fun w hB hG K hK => ?h2x1) ?_
  case h2x1 =>
    have cx := Own.cell hG 5 rfl
    go_wp2_with fail
    exact hK _ (Below.refl _ _)
  simp only [List.set_cons_zero, List.set_cons_succ]
  refine wpG_pure (i := 2) (v := ?v2x2) rfl rfl (by rfl) (fun w hB hG K hK => ?h2x2) ?_
  case h2x2 =>
    go_wp2_with fail
    exact hK _ (Below.refl _ _)
  simp only [List.set_cons_zero, List.set_cons_succ]
  refine wpG_pure (i := 3) (v := ?v2x3) rfl rfl (by rfl) (fun w hB hG K hK => ?h2x3) ?_
  case h2x3 =>
    have cx := Own.cell hG 4 rfl
    go_wp2_with fail
    exact hK _ (Below.refl _ _)
  simp only [List.set_cons_zero, List.set_cons_succ]
  refine wpG_pure (i := 4) (v := ?v2x4) rfl rfl (by rfl) (fun w hB hG K hK => ?h2x4) ?_
  case h2x4 =>
    go_wp2_with fail
    refine (refJoin_any _ _ _).mono ?_
    rintro e wx ⟨rfl, rfl⟩
    exact hK _ (Below.refl _ _)
  simp only [List.set_cons_zero, List.set_cons_succ]
  refine wpG_pure (i := 5) (v := ?v2x5) rfl rfl (by rfl) (fun w hB hG K hK => ?h2x5) ?_
  case h2x5 =>
    go_wp2_with fail
    exact hK _ (Below.refl _ _)
  simp only [List.set_cons_zero, List.set_cons_succ]
  refine wpG_pure (i := 6) (v := ?v2x6) rfl rfl (by rfl) (fun w hB hG K hK => ?h2x6) ?_
  case h2x6 =>
    have cx := Own.cell hG 3 rfl
    go_wp2_with fail
    exact hK _ (Below.refl _ _)
  simp only [List.set_cons_zero, List.set_cons_succ]
  refine wpG_pure (i := 7) (v := ?v2x7) rfl rfl (by rfl) (fun w hB hG K hK => ?h2x7) ?_
  case h2x7 =>
    go_wp2_with fail
    refine (HJ.out _).mono ?_
    rintro e wx ⟨rfl, rfl⟩
    exact hK _ (Below.refl _ _)
  simp only [List.set_cons_zero, List.set_cons_succ]
  refine wpG_nil (fun w2 hb2 hG2 => ?_)
  simp only [List.append_eq, List.cons_append, List.nil_append, List.drop_succ_cons, List.drop_zero, List.drop_nil]
  have O2 := Own.of hG2
  try simp only [List.setIfInBounds_toArray, List.set_cons_zero, List.set_cons_succ] at O2
  have bw2 : Below w.heap.size w w2 := Below.trans (by go_grown) (Below.mono hb2 (by first | omega | (simp; done) | (simp; omega)))
  have zw2 := Below.size hb2
  try simp only [World.size_alloc, World.size_drew, World.size_setCell] at zw2
  clear c1x0 f1x0 l1x0 l1x0d0 l1x0d1 c1x1 f1x1 l1x1 l1x1d0 l1x1d1 c1x2 f1x2 l1x2 l1x2d0 l1x2d1 c1x3 f1x3 l1x3 l1x3d0 l1x3d1 c1x4 f1x4 l1x4 l1x4d0 l1x4d1 c1x5 f1x5 l1x5 l1x5d0 l1x5d1
  have c2x0 := Own.cell O2 0 rfl
  have f2x0 := Own.free O2 0 rfl
  have l2x0 := Own.lt O2 0 rfl
  have l2x0d0 := le_up 0 l2x0
  have l2x0d1 := le_up 1 l2x0
  simp only [upN] at l2x0d0 l2x0d1
  have c2x1 := Own.cell O2 1 rfl
  have f2x1 := Own.free O2 1 rfl
  have l2x1 := Own.lt O2 1 rfl
  have l2x1d0 := le_up 0 l2x1
  have l2x1d1 := le_up 1 l2x1
  simp only [upN] at l2x1d0 l2x1d1
  have c2x2 := Own.cell O2 2 rfl
  have f2x2 := Own.free O2 2 rfl
  have l2x2 := Own.lt O2 2 rfl
  have l2x2d0 := le_up 0 l2x2
  have l2x2d1 := le_up 1 l2x2
  simp only [upN] at l2x2d0 l2x2d1
  have c2x3 := Own.cell O2 3 rfl
  have f2x3 := Own.free O2 3 rfl
  have l2x3 := Own.lt O2 3 rfl
  have l2x3d0 := le_up 0 l2x3
  have l2x3d1 := le_up 1 l2x3
  simp only [upN] at l2x3d0 l2x3d1
  have c2x4 := Own.cell O2 4 rfl
  have f2x4 := Own.free O2 4 rfl
  have l2x4 := Own.lt O2 4 rfl
  have l2x4d0 := le_up 0 l2x4
  have l2x4d1 := le_up 1 l2x4
  simp only [upN] at l2x4d0 l2x4d1
  have c2x5 := Own.cell O2 5 rfl
  have f2x5 := Own.free O2 5 rfl
  have l2x5 := Own.lt O2 5 rfl
  have l2x5d0 := le_up 0 l2x5
  have l2x5d1 := le_up 1 l2x5
  simp only [upN] at l2x5d0 l2x5d1
  have HO2 := Lib.hid O2
  clear O2 hb2
  go_wp2_with fail
  refine (fixed_any _ _).mono ?_
  rintro e w3 ⟨rfl, hb3⟩
  have O3 := Own.grow' hb3 HO2.out
  try simp only [List.setIfInBounds_toArray, List.set_cons_zero, List.set_cons_succ] at O3
  have bw3 : Below w.heap.size w w3 := Below.trans (by go_grown) (Below.mono hb3 (by first | omega | (simp; done) | (simp; omega)))
  have zw3 := Below.size hb3
  try simp only [World.size_alloc, World.size_drew, World.size_setCell] at zw3
  clear c2x0 f2x0 l2x0 l2x0d0 l2x0d1 c2x1 f2x1 l2x1 l2x1d0 l2x1d1 c2x2 f2x2 l2x2 l2x2d0 l2x2d1 c2x3 f2x3 l2x3 l2x3d0 l2x3d1 c2x4 f2x4 l2x4 l2x4d0 l2x4d1 c2x5 f2x5 l2x5 l2x5d0 l2x5d1
  have c3x0 := Own.cell O3 0 rfl
  have f3x0 := Own.free O3 0 rfl
  have l3x0 := Own.lt O3 0 rfl
  have l3x0d0 := le_up 0 l3x0
  have l3x0d1 := le_up 1 l3x0
  simp only [upN] at l3x0d0 l3x0d1
  have c3x1 := Own.cell O3 1 rfl
  have f3x1 := Own.free O3 1 rfl
  have l3x1 := Own.lt O3 1 rfl
  have l3x1d0 := le_up 0 l3x1
  have l3x1d1 := le_up 1 l3x1
  simp only [upN] at l3x1d0 l3x1d1
  have c3x2 := Own.cell O3 2 rfl
  have f3x2 := Own.free O3 2 rfl
  have l3x2 := Own.lt O3 2 rfl
  have l3x2d0 := le_up 0 l3x2
  have l3x2d1 := le_up 1 l3x2
  simp only [upN] at l3x2d0 l3x2d1
  have c3x3 := Own.cell O3 3 rfl
  have f3x3 := Own.free O3 3 rfl
  have l3x3 := Own.lt O3 3 rfl
  have l3x3d0 := le_up 0 l3x3
  have l3x3d1 := le_up 1 l3x3
  simp only [upN] at l3x3d0 l3x3d1
  have c3x4 := Own.cell O3 4 rfl
  have f3x4 := Own.free O3 4 rfl
  have l3x4 := Own.lt O3 4 rfl
  have l3x4d0 := le_up 0 l3x4
  have l3x4d1 := le_up 1 l3x4
  simp only [upN] at l3x4d0 l3x4d1
  have c3x5 := Own.cell O3 5 rfl
  have f3x5 := Own.free O3 5 rfl
  have l3x5 := Own.lt O3 5 rfl
  have l3x5d0 := le_up 0 l3x5
  have l3x5d1 := le_up 1 l3x5
  simp only [upN] at l3x5d0 l3x5d1
  have HO3 := Lib.hid O3
  clear O3 hb3
  go_wp2_with fail
  refine (fixed_any _ _).mono ?_
  rintro e w4 ⟨rfl, hb4⟩
  have O4 := Own.grow' hb4 HO3.out
  try simp only [List.setIfInBounds_toArray, List.set_cons_zero, List.set_cons_succ] at O4
  have bw4 : Below w.heap.size w w4 := Below.trans (by go_grown) (Below.mono hb4 (by first | omega | (simp; done) | (simp; omega)))
  have zw4 := Below.size hb4
  try simp only [World.size_alloc, World.size_drew, World.size_setCell] at zw4
  clear c3x0 f3x0 l3x0 l3x0d0 l3x0d1 c3x1 f3x1 l3x1 l3x1d0 l3x1d1 c3x2 f3x2 l3x2 l3x2d0 l3x2d1 c3x3 f3x3 l3x3 l3x3d0 l3x3d1 c3x4 f3x4 l3x4 l3x4d0 l3x4d1 c3x5 f3x5 l3x5 l3x5d0 l3x5d1
  have c4x0 := Own.cell O4 0 rfl
  have f4x0 := Own.free O4 0 rfl
  have l4x0 := Own.lt O4 0 rfl
  have l4x0d0 := le_up 0 l4x0
  have l4x0d1 := le_up 1 l4x0
  simp only [upN] at l4x0d0 l4x0d1
  have c4x1 := Own.cell O4 1 rfl
  have f4x1 := Own.free O4 1 rfl
  have l4x1 := Own.lt O4 1 rfl
  have l4x1d0 := le_up 0 l4x1
  have l4x1d1 := le_up 1 l4x1
  simp only [upN] at l4x1d0 l4x1d1
  have c4x2 := Own.cell O4 2 rfl
  have f4x2 := Own.free O4 2 rfl
  have l4x2 := Own.lt O4 2 rfl
  have l4x2d0 := le_up 0 l4x2
  have l4x2d1 := le_up 1 l4x2
  simp only [upN] at l4x2d0 l4x2d1
  have c4x3 := Own.cell O4 3 rfl
  have f4x3 := Own.free O4 3 rfl
  have l4x3 := Own.lt O4 3 rfl
  have l4x3d0 := le_up 0 l4x3
  have l4x3d1 := le_up 1 l4x3
  simp only [upN] at l4x3d0 l4x3d1
  have c4x4 := Own.cell O4 4 rfl
  have f4x4 := Own.free O4 4 rfl
  have l4x4 := Own.lt O4 4 rfl
  have l4x4d0 := le_up 0 l4x4
  have l4x4d1 := le_up 1 l4x4
  simp only [upN] at l4x4d0 l4x4d1
  have c4x5 := Own.cell O4 5 rfl
  have f4x5 := Own.free O4 5 rfl
  have l4x5 := Own.lt O4 5 rfl
  have l4x5d0 := le_up 0 l4x5
  have l4x5d1 := le_up 1 l4x5
  simp only [upN] at l4x5d0 l4x5d1
  have HO4 := Lib.hid O4
  clear O4 hb4
  go_wp2_with fail
  refine (fixed_any _ _).mono ?_
  rintro e w5 ⟨rfl, hb5⟩
  have O5 := Own.grow' hb5 HO4.out
  try simp only [List.setIfInBounds_toArray, List.set_cons_zero, List.set_cons_succ] at O5
  have bw5 : Below w.heap.size w w5 := Below.trans (by go_grown) (Below.mono hb5 (by first | omega | (simp; done) | (simp; omega)))
  have zw5 := Below.size hb5
  try simp only [World.size_alloc, World.size_drew, World.size_setCell] at zw5
  clear c4x0 f4x0 l4x0 l4x0d0 l4x0d1 c4x1 f4x1 l4x1 l4x1d0 l4x1d1 c4x2 f4x2 l4x2 l4x2d0 l4x2d1 c4x3 f4x3 l4x3 l4x3d0 l4x3d1 c4x4 f4x4 l4x4 l4x4d0 l4x4d1 c4x5 f4x5 l4x5 l4x5d0 l4x5d1
  have c5x0 := Own.cell O5 0 rfl
  have f5x0 := Own.free O5 0 rfl
  have l5x0 := Own.lt O5 0 rfl
  have l5x0d0 := le_up 0 l5x0
  have l5x0d1 := le_up 1 l5x0
  simp only [upN] at l5x0d0 l5x0d1
  have c5x1 := Own.cell O5 1 rfl
  have f5x1 := Own.free O5 1 rfl
  have l5x1 := Own.lt O5 1 rfl
  have l5x1d0 := le_up 0 l5x1
  have l5x1d1 := le_up 1 l5x1
  simp only [upN] at l5x1d0 l5x1d1
  have c5x2 := Own.cell O5 2 rfl
  have f5x2 := Own.free O5 2 rfl
  have l5x2 := Own.lt O5 2 rfl
  have l5x2d0 := le_up 0 l5x2
  have l5x2d1 := le_up 1 l5x2
  simp only [upN] at l5x2d0 l5x2d1
  have c5x3 := Own.cell O5 3 rfl
  have f5x3 := Own.free O5 3 rfl
  have l5x3 := Own.lt O5 3 rfl
  have l5x3d0 := le_up 0 l5x3
  have l5x3d1 := le_up 1 l5x3
  simp only [upN] at l5x3d0 l5x3d1
  have c5x4 := Own.cell O5 4 rfl
  have f5x4 := Own.free O5 4 rfl
  have l5x4 := Own.lt O5 4 rfl
  have l5x4d0 := le_up 0 l5x4
  have l5x4d1 := le_up 1 l5x4
  simp only [upN] at l5x4d0 l5x4d1
  have c5x5 := Own.cell O5 5 rfl
  have f5x5 := Own.free O5 5 rfl
  have l5x5 := Own.lt O5 5 rfl
  have l5x5d0 := le_up 0 l5x5
  have l5x5d1 := le_up 1 l5x5
  simp only [upN] at l5x5d0 l5x5d1
  have HO5 := Lib.hid O5
  clear O5 hb5
  go_wp2_with fail
  refine bodyPost_ret (v := .tuple #[.agg #[.int .u64 (n + 2100), .int .u64 (n + 2100), .int .u64 (n + 2100), .int .u64 0], .agg #[.int .u64 m, .int .u64 m, .int .u64 m, .int .u64 0], .agg #[.int .u64 l, .int .u64 l, .int .u64 l, .int .u64 0]]) (by simp [results, Try.results7, go_sem, *]) rfl ?_
  exact ⟨rfl, by go_grown⟩

set_option maxHeartbeats 1000000 in
set_option maxRecDepth 20000 in
theorem refChange_Fl (x y z : Vl) (n m l a : Int) (w : World) (hx : ∀ V, Calls Try.prog 23 #[.agg #[.int .u64 x.a, .int .u64 x.b, .int .u64 x.c, .int .u64 x.d], .agg #[.int .u64 y.a, .int .u64 y.b, .int .u64 y.c, .int .u64 y.d], .agg #[.int .u64 z.a, .int .u64 z.b, .int .u64 z.c, .int .u64 z.d]] V fun e w' => e = .returned (.tuple #[.int .u64 n, .int .u64 m, .int .u64 l]) ∧ Below V.heap.size V w') (hn0 : 0 ≤ n) (hn1 : n ≤ 20000) (hl0 : bits .or .u64 (bits .or .u64 x.l y.l) z.l = a) (ha : ¬ a = 0) :
    Calls Try.prog 7 #[.bool false, .agg #[.int .u64 x.a, .int .u64 x.b, .int .u64 x.c, .int .u64 x.d, .int .u64 x.l], .agg #[.int .u64 y.a, .int .u64 y.b, .int .u64 y.c, .int .u64 y.d, .int .u64 y.l], .agg #[.int .u64 z.a, .int .u64 z.b, .int .u64 z.c, .int .u64 z.d, .int .u64 z.l]] w fun e w' => e = .returned (.tuple #[.agg #[.int .u64 n, .int .u64 100, .int .u64 20000, .int .u64 a], .agg #[.int .u64 m, .int .u64 0, .int .u64 19900, .int .u64 a], .agg #[.int .u64 l, .int .u64 0, .int .u64 4800, .int .u64 a]]) ∧ Below w.heap.size w w' := by
  have HX := Lib.hid hx
  clear hx
  have hj := fun V : World => refJoin_any (bits .or .u64 x.l y.l) z.l V
  rw [hl0] at hj
  have HJ := Lib.hid hj
  clear hj hl0
  have ha' : ¬ a = 0 := ha
  go_enter Try.func7, Try.ntmps7
  go_wp2_with fail
  refine (HX.out _).mono ?_
  rintro e w1 ⟨rfl, hb1⟩
  have O1 := Own.grow' hb1 (Own.new (Own.new (Own.new (Own.new (Own.new (Own.new (Own.nil w) (w.heap.size) (by first | rfl | simp)) (w.heap.size + 1) (by simp)) (w.heap.size + 1 + 1) (by simp)) (w.heap.size + 1 + 1 + 1) (by simp)) (w.heap.size + 1 + 1 + 1 + 1) (by simp)) (w.heap.size + 1 + 1 + 1 + 1 + 1) (by simp))
  try simp only [List.setIfInBounds_toArray, List.set_cons_zero, List.set_cons_succ] at O1
  have bw1 : Below w.heap.size w w1 := Below.trans (by go_grown) (Below.mono hb1 (by first | omega | (simp; done) | (simp; omega)))
  have zw1 := Below.size hb1
  try simp only [World.size_alloc, World.size_drew, World.size_setCell] at zw1
  have c1x0 := Own.cell O1 0 rfl
  have f1x0 := Own.free O1 0 rfl
  have l1x0 := Own.lt O1 0 rfl
  have l1x0d0 := le_up 0 l1x0
  have l1x0d1 := le_up 1 l1x0
  simp only [upN] at l1x0d0 l1x0d1
  have c1x1 := Own.cell O1 1 rfl
  have f1x1 := Own.free O1 1 rfl
  have l1x1 := Own.lt O1 1 rfl
  have l1x1d0 := le_up 0 l1x1
  have l1x1d1 := le_up 1 l1x1
  simp only [upN] at l1x1d0 l1x1d1
  have c1x2 := Own.cell O1 2 rfl
  have f1x2 := Own.free O1 2 rfl
  have l1x2 := Own.lt O1 2 rfl
  have l1x2d0 := le_up 0 l1x2
  have l1x2d1 := le_up 1 l1x2
  simp only [upN] at l1x2d0 l1x2d1
  have c1x3 := Own.cell O1 3 rfl
  have f1x3 := Own.free O1 3 rfl
  have l1x3 := Own.lt O1 3 rfl
  have l1x3d0 := le_up 0 l1x3
  have l1x3d1 := le_up 1 l1x3
  simp only [upN] at l1x3d0 l1x3d1
  have c1x4 := Own.cell O1 4 rfl
  have f1x4 := Own.free O1 4 rfl
  have l1x4 := Own.lt O1 4 rfl
  have l1x4d0 := le_up 0 l1x4
  have l1x4d1 := le_up 1 l1x4
  simp only [upN] at l1x4d0 l1x4d1
  have c1x5 := Own.cell O1 5 rfl
  have f1x5 := Own.free O1 5 rfl
  have l1x5 := Own.lt O1 5 rfl
  have l1x5d0 := le_up 0 l1x5
  have l1x5d1 := le_up 1 l1x5
  simp only [upN] at l1x5d0 l1x5d1
  have HO1 := Lib.hid O1
  clear O1 hb1
  go_wp2_with fail
  refine wp_region_grow w.heap.size 8 0 0 [(0, 0, 268435456, 32), (1, 1, 536870912, 268435456), (2, 0, 1073741824, 64), (3, 4, 2147483648, 1073741824), (4, 10, 4294967296, 2684354560), (5, 0, 8589934592, 128), (6, 32, 17179869184, 8589934592), (7, 80, 34359738368, 21474836480), (8, 255, 32768, 34359738368)] [(.p 0, 1), (.p 1, 3), (.p 2, 7), (.p 3, 15), (.p 4, 31), (.p 5, 63), (.p 6, 127), (.p 7, 255)] [(8, 511)] _ (fun p hp => hp) (by first | omega | (simp; done) | (simp; omega)) (by kernel_rfl) (by kernel_rfl) HO1.out ?_
  refine wpG_pure (i := 0) (v := ?v2x0) rfl rfl (by rfl) (fun w hB hG K hK => ?h2x0) ?_
  case h2x0 =>
    go_wp2_with fail
    exact hK _ (Below.refl _ _)
  simp only [List.set_cons_zero, List.set_cons_succ]
  refine wpG_pure (i := 1) (v := ?v2x1) rfl rfl (by rfl) (fun w hB hG K hK => ?h2x1) ?_
  case h2x1 =>
    have cx := Own.cell hG 5 rfl
    go_wp2_with fail
    exact hK _ (Below.refl _ _)
  simp only [List.set_cons_zero, List.set_cons_succ]
  refine wpG_pure (i := 2) (v := ?v2x2) rfl rfl (by rfl) (fun w hB hG K hK => ?h2x2) ?_
  case h2x2 =>
    go_wp2_with fail
    exact hK _ (Below.refl _ _)
  simp only [List.set_cons_zero, List.set_cons_succ]
  refine wpG_pure (i := 3) (v := ?v2x3) rfl rfl (by rfl) (fun w hB hG K hK => ?h2x3) ?_
  case h2x3 =>
    have cx := Own.cell hG 4 rfl
    go_wp2_with fail
    exact hK _ (Below.refl _ _)
  simp only [List.set_cons_zero, List.set_cons_succ]
  refine wpG_pure (i := 4) (v := ?v2x4) rfl rfl (by rfl) (fun w hB hG K hK => ?h2x4) ?_
  case h2x4 =>
    go_wp2_with fail
    refine (refJoin_any _ _ _).mono ?_
    rintro e wx ⟨rfl, rfl⟩
    exact hK _ (Below.refl _ _)
  simp only [List.set_cons_zero, List.set_cons_succ]
  refine wpG_pure (i := 5) (v := ?v2x5) rfl rfl (by rfl) (fun w hB hG K hK => ?h2x5) ?_
  case h2x5 =>
    go_wp2_with fail
    exact hK _ (Below.refl _ _)
  simp only [List.set_cons_zero, List.set_cons_succ]
  refine wpG_pure (i := 6) (v := ?v2x6) rfl rfl (by rfl) (fun w hB hG K hK => ?h2x6) ?_
  case h2x6 =>
    have cx := Own.cell hG 3 rfl
    go_wp2_with fail
    exact hK _ (Below.refl _ _)
  simp only [List.set_cons_zero, List.set_cons_succ]
  refine wpG_pure (i := 7) (v := ?v2x7) rfl rfl (by rfl) (fun w hB hG K hK => ?h2x7) ?_
  case h2x7 =>
    go_wp2_with fail
    refine (HJ.out _).mono ?_
    rintro e wx ⟨rfl, rfl⟩
    exact hK _ (Below.refl _ _)
  simp only [List.set_cons_zero, List.set_cons_succ]
  refine wpG_nil (fun w2 hb2 hG2 => ?_)
  simp only [List.append_eq, List.cons_append, List.nil_append, List.drop_succ_cons, List.drop_zero, List.drop_nil]
  have O2 := Own.of hG2
  try simp only [List.setIfInBounds_toArray, List.set_cons_zero, List.set_cons_succ] at O2
  have bw2 : Below w.heap.size w w2 := Below.trans (by go_grown) (Below.mono hb2 (by first | omega | (simp; done) | (simp; omega)))
  have zw2 := Below.size hb2
  try simp only [World.size_alloc, World.size_drew, World.size_setCell] at zw2
  clear c1x0 f1x0 l1x0 l1x0d0 l1x0d1 c1x1 f1x1 l1x1 l1x1d0 l1x1d1 c1x2 f1x2 l1x2 l1x2d0 l1x2d1 c1x3 f1x3 l1x3 l1x3d0 l1x3d1 c1x4 f1x4 l1x4 l1x4d0 l1x4d1 c1x5 f1x5 l1x5 l1x5d0 l1x5d1
  have c2x0 := Own.cell O2 0 rfl
  have f2x0 := Own.free O2 0 rfl
  have l2x0 := Own.lt O2 0 rfl
  have l2x0d0 := le_up 0 l2x0
  have l2x0d1 := le_up 1 l2x0
  simp only [upN] at l2x0d0 l2x0d1
  have c2x1 := Own.cell O2 1 rfl
  have f2x1 := Own.free O2 1 rfl
  have l2x1 := Own.lt O2 1 rfl
  have l2x1d0 := le_up 0 l2x1
  have l2x1d1 := le_up 1 l2x1
  simp only [upN] at l2x1d0 l2x1d1
  have c2x2 := Own.cell O2 2 rfl
  have f2x2 := Own.free O2 2 rfl
  have l2x2 := Own.lt O2 2 rfl
  have l2x2d0 := le_up 0 l2x2
  have l2x2d1 := le_up 1 l2x2
  simp only [upN] at l2x2d0 l2x2d1
  have c2x3 := Own.cell O2 3 rfl
  have f2x3 := Own.free O2 3 rfl
  have l2x3 := Own.lt O2 3 rfl
  have l2x3d0 := le_up 0 l2x3
  have l2x3d1 := le_up 1 l2x3
  simp only [upN] at l2x3d0 l2x3d1
  have c2x4 := Own.cell O2 4 rfl
  have f2x4 := Own.free O2 4 rfl
  have l2x4 := Own.lt O2 4 rfl
  have l2x4d0 := le_up 0 l2x4
  have l2x4d1 := le_up 1 l2x4
  simp only [upN] at l2x4d0 l2x4d1
  have c2x5 := Own.cell O2 5 rfl
  have f2x5 := Own.free O2 5 rfl
  have l2x5 := Own.lt O2 5 rfl
  have l2x5d0 := le_up 0 l2x5
  have l2x5d1 := le_up 1 l2x5
  simp only [upN] at l2x5d0 l2x5d1
  have HO2 := Lib.hid O2
  clear O2 hb2
  go_wp2_with fail
  refine bodyPost_ret (v := .tuple #[.agg #[.int .u64 n, .int .u64 100, .int .u64 20000, .int .u64 a], .agg #[.int .u64 m, .int .u64 0, .int .u64 19900, .int .u64 a], .agg #[.int .u64 l, .int .u64 0, .int .u64 4800, .int .u64 a]]) (by simp [results, Try.results7, go_sem, *]) rfl ?_
  exact ⟨rfl, by go_grown⟩

set_option maxHeartbeats 1000000 in
set_option maxRecDepth 20000 in
theorem refChange_Fz (x y z : Vl) (n m l a : Int) (w : World) (hx : ∀ V, Calls Try.prog 23 #[.agg #[.int .u64 x.a, .int .u64 x.b, .int .u64 x.c, .int .u64 x.d], .agg #[.int .u64 y.a, .int .u64 y.b, .int .u64 y.c, .int .u64 y.d], .agg #[.int .u64 z.a, .int .u64 z.b, .int .u64 z.c, .int .u64 z.d]] V fun e w' => e = .returned (.tuple #[.int .u64 n, .int .u64 m, .int .u64 l]) ∧ Below V.heap.size V w') (hn0 : 0 ≤ n) (hn1 : n ≤ 20000) (hl0 : bits .or .u64 (bits .or .u64 x.l y.l) z.l = a) (ha : a = 0) :
    Calls Try.prog 7 #[.bool false, .agg #[.int .u64 x.a, .int .u64 x.b, .int .u64 x.c, .int .u64 x.d, .int .u64 x.l], .agg #[.int .u64 y.a, .int .u64 y.b, .int .u64 y.c, .int .u64 y.d, .int .u64 y.l], .agg #[.int .u64 z.a, .int .u64 z.b, .int .u64 z.c, .int .u64 z.d, .int .u64 z.l]] w fun e w' => e = .returned (.tuple #[.agg #[.int .u64 n, .int .u64 n, .int .u64 n, .int .u64 0], .agg #[.int .u64 m, .int .u64 m, .int .u64 m, .int .u64 0], .agg #[.int .u64 l, .int .u64 l, .int .u64 l, .int .u64 0]]) ∧ Below w.heap.size w w' := by
  have HX := Lib.hid hx
  clear hx
  have hj := fun V : World => refJoin_any (bits .or .u64 x.l y.l) z.l V
  rw [hl0] at hj
  have HJ := Lib.hid hj
  clear hj hl0
  subst ha
  go_enter Try.func7, Try.ntmps7
  go_wp2_with fail
  refine (HX.out _).mono ?_
  rintro e w1 ⟨rfl, hb1⟩
  have O1 := Own.grow' hb1 (Own.new (Own.new (Own.new (Own.new (Own.new (Own.new (Own.nil w) (w.heap.size) (by first | rfl | simp)) (w.heap.size + 1) (by simp)) (w.heap.size + 1 + 1) (by simp)) (w.heap.size + 1 + 1 + 1) (by simp)) (w.heap.size + 1 + 1 + 1 + 1) (by simp)) (w.heap.size + 1 + 1 + 1 + 1 + 1) (by simp))
  try simp only [List.setIfInBounds_toArray, List.set_cons_zero, List.set_cons_succ] at O1
  have bw1 : Below w.heap.size w w1 := Below.trans (by go_grown) (Below.mono hb1 (by first | omega | (simp; done) | (simp; omega)))
  have zw1 := Below.size hb1
  try simp only [World.size_alloc, World.size_drew, World.size_setCell] at zw1
  have c1x0 := Own.cell O1 0 rfl
  have f1x0 := Own.free O1 0 rfl
  have l1x0 := Own.lt O1 0 rfl
  have l1x0d0 := le_up 0 l1x0
  have l1x0d1 := le_up 1 l1x0
  simp only [upN] at l1x0d0 l1x0d1
  have c1x1 := Own.cell O1 1 rfl
  have f1x1 := Own.free O1 1 rfl
  have l1x1 := Own.lt O1 1 rfl
  have l1x1d0 := le_up 0 l1x1
  have l1x1d1 := le_up 1 l1x1
  simp only [upN] at l1x1d0 l1x1d1
  have c1x2 := Own.cell O1 2 rfl
  have f1x2 := Own.free O1 2 rfl
  have l1x2 := Own.lt O1 2 rfl
  have l1x2d0 := le_up 0 l1x2
  have l1x2d1 := le_up 1 l1x2
  simp only [upN] at l1x2d0 l1x2d1
  have c1x3 := Own.cell O1 3 rfl
  have f1x3 := Own.free O1 3 rfl
  have l1x3 := Own.lt O1 3 rfl
  have l1x3d0 := le_up 0 l1x3
  have l1x3d1 := le_up 1 l1x3
  simp only [upN] at l1x3d0 l1x3d1
  have c1x4 := Own.cell O1 4 rfl
  have f1x4 := Own.free O1 4 rfl
  have l1x4 := Own.lt O1 4 rfl
  have l1x4d0 := le_up 0 l1x4
  have l1x4d1 := le_up 1 l1x4
  simp only [upN] at l1x4d0 l1x4d1
  have c1x5 := Own.cell O1 5 rfl
  have f1x5 := Own.free O1 5 rfl
  have l1x5 := Own.lt O1 5 rfl
  have l1x5d0 := le_up 0 l1x5
  have l1x5d1 := le_up 1 l1x5
  simp only [upN] at l1x5d0 l1x5d1
  have HO1 := Lib.hid O1
  clear O1 hb1
  go_wp2_with fail
  refine wp_region_grow w.heap.size 8 0 0 [(0, 0, 268435456, 32), (1, 1, 536870912, 268435456), (2, 0, 1073741824, 64), (3, 4, 2147483648, 1073741824), (4, 10, 4294967296, 2684354560), (5, 0, 8589934592, 128), (6, 32, 17179869184, 8589934592), (7, 80, 34359738368, 21474836480), (8, 255, 32768, 34359738368)] [(.p 0, 1), (.p 1, 3), (.p 2, 7), (.p 3, 15), (.p 4, 31), (.p 5, 63), (.p 6, 127), (.p 7, 255)] [(8, 511)] _ (fun p hp => hp) (by first | omega | (simp; done) | (simp; omega)) (by kernel_rfl) (by kernel_rfl) HO1.out ?_
  refine wpG_pure (i := 0) (v := ?v2x0) rfl rfl (by rfl) (fun w hB hG K hK => ?h2x0) ?_
  case h2x0 =>
    go_wp2_with fail
    exact hK _ (Below.refl _ _)
  simp only [List.set_cons_zero, List.set_cons_succ]
  refine wpG_pure (i := 1) (v := ?v2x1) rfl rfl (by rfl) (fun w hB hG K hK => ?h2x1) ?_
  case h2x1 =>
    have cx := Own.cell hG 5 rfl
    go_wp2_with fail
    exact hK _ (Below.refl _ _)
  simp only [List.set_cons_zero, List.set_cons_succ]
  refine wpG_pure (i := 2) (v := ?v2x2) rfl rfl (by rfl) (fun w hB hG K hK => ?h2x2) ?_
  case h2x2 =>
    go_wp2_with fail
    exact hK _ (Below.refl _ _)
  simp only [List.set_cons_zero, List.set_cons_succ]
  refine wpG_pure (i := 3) (v := ?v2x3) rfl rfl (by rfl) (fun w hB hG K hK => ?h2x3) ?_
  case h2x3 =>
    have cx := Own.cell hG 4 rfl
    go_wp2_with fail
    exact hK _ (Below.refl _ _)
  simp only [List.set_cons_zero, List.set_cons_succ]
  refine wpG_pure (i := 4) (v := ?v2x4) rfl rfl (by rfl) (fun w hB hG K hK => ?h2x4) ?_
  case h2x4 =>
    go_wp2_with fail
    refine (refJoin_any _ _ _).mono ?_
    rintro e wx ⟨rfl, rfl⟩
    exact hK _ (Below.refl _ _)
  simp only [List.set_cons_zero, List.set_cons_succ]
  refine wpG_pure (i := 5) (v := ?v2x5) rfl rfl (by rfl) (fun w hB hG K hK => ?h2x5) ?_
  case h2x5 =>
    go_wp2_with fail
    exact hK _ (Below.refl _ _)
  simp only [List.set_cons_zero, List.set_cons_succ]
  refine wpG_pure (i := 6) (v := ?v2x6) rfl rfl (by rfl) (fun w hB hG K hK => ?h2x6) ?_
  case h2x6 =>
    have cx := Own.cell hG 3 rfl
    go_wp2_with fail
    exact hK _ (Below.refl _ _)
  simp only [List.set_cons_zero, List.set_cons_succ]
  refine wpG_pure (i := 7) (v := ?v2x7) rfl rfl (by rfl) (fun w hB hG K hK => ?h2x7) ?_
  case h2x7 =>
    go_wp2_with fail
    refine (HJ.out _).mono ?_
    rintro e wx ⟨rfl, rfl⟩
    exact hK _ (Below.refl _ _)
  simp only [List.set_cons_zero, List.set_cons_succ]
  refine wpG_nil (fun w2 hb2 hG2 => ?_)
  simp only [List.append_eq, List.cons_append, List.nil_append, List.drop_succ_cons, List.drop_zero, List.drop_nil]
  have O2 := Own.of hG2
  try simp only [List.setIfInBounds_toArray, List.set_cons_zero, List.set_cons_succ] at O2
  have bw2 : Below w.heap.size w w2 := Below.trans (by go_grown) (Below.mono hb2 (by first | omega | (simp; done) | (simp; omega)))
  have zw2 := Below.size hb2
  try simp only [World.size_alloc, World.size_drew, World.size_setCell] at zw2
  clear c1x0 f1x0 l1x0 l1x0d0 l1x0d1 c1x1 f1x1 l1x1 l1x1d0 l1x1d1 c1x2 f1x2 l1x2 l1x2d0 l1x2d1 c1x3 f1x3 l1x3 l1x3d0 l1x3d1 c1x4 f1x4 l1x4 l1x4d0 l1x4d1 c1x5 f1x5 l1x5 l1x5d0 l1x5d1
  have c2x0 := Own.cell O2 0 rfl
  have f2x0 := Own.free O2 0 rfl
  have l2x0 := Own.lt O2 0 rfl
  have l2x0d0 := le_up 0 l2x0
  have l2x0d1 := le_up 1 l2x0
  simp only [upN] at l2x0d0 l2x0d1
  have c2x1 := Own.cell O2 1 rfl
  have f2x1 := Own.free O2 1 rfl
  have l2x1 := Own.lt O2 1 rfl
  have l2x1d0 := le_up 0 l2x1
  have l2x1d1 := le_up 1 l2x1
  simp only [upN] at l2x1d0 l2x1d1
  have c2x2 := Own.cell O2 2 rfl
  have f2x2 := Own.free O2 2 rfl
  have l2x2 := Own.lt O2 2 rfl
  have l2x2d0 := le_up 0 l2x2
  have l2x2d1 := le_up 1 l2x2
  simp only [upN] at l2x2d0 l2x2d1
  have c2x3 := Own.cell O2 3 rfl
  have f2x3 := Own.free O2 3 rfl
  have l2x3 := Own.lt O2 3 rfl
  have l2x3d0 := le_up 0 l2x3
  have l2x3d1 := le_up 1 l2x3
  simp only [upN] at l2x3d0 l2x3d1
  have c2x4 := Own.cell O2 4 rfl
  have f2x4 := Own.free O2 4 rfl
  have l2x4 := Own.lt O2 4 rfl
  have l2x4d0 := le_up 0 l2x4
  have l2x4d1 := le_up 1 l2x4
  simp only [upN] at l2x4d0 l2x4d1
  have c2x5 := Own.cell O2 5 rfl
  have f2x5 := Own.free O2 5 rfl
  have l2x5 := Own.lt O2 5 rfl
  have l2x5d0 := le_up 0 l2x5
  have l2x5d1 := le_up 1 l2x5
  simp only [upN] at l2x5d0 l2x5d1
  have HO2 := Lib.hid O2
  clear O2 hb2
  go_wp2_with fail
  refine (fixed_any _ _).mono ?_
  rintro e w3 ⟨rfl, hb3⟩
  have O3 := Own.grow' hb3 HO2.out
  try simp only [List.setIfInBounds_toArray, List.set_cons_zero, List.set_cons_succ] at O3
  have bw3 : Below w.heap.size w w3 := Below.trans (by go_grown) (Below.mono hb3 (by first | omega | (simp; done) | (simp; omega)))
  have zw3 := Below.size hb3
  try simp only [World.size_alloc, World.size_drew, World.size_setCell] at zw3
  clear c2x0 f2x0 l2x0 l2x0d0 l2x0d1 c2x1 f2x1 l2x1 l2x1d0 l2x1d1 c2x2 f2x2 l2x2 l2x2d0 l2x2d1 c2x3 f2x3 l2x3 l2x3d0 l2x3d1 c2x4 f2x4 l2x4 l2x4d0 l2x4d1 c2x5 f2x5 l2x5 l2x5d0 l2x5d1
  have c3x0 := Own.cell O3 0 rfl
  have f3x0 := Own.free O3 0 rfl
  have l3x0 := Own.lt O3 0 rfl
  have l3x0d0 := le_up 0 l3x0
  have l3x0d1 := le_up 1 l3x0
  simp only [upN] at l3x0d0 l3x0d1
  have c3x1 := Own.cell O3 1 rfl
  have f3x1 := Own.free O3 1 rfl
  have l3x1 := Own.lt O3 1 rfl
  have l3x1d0 := le_up 0 l3x1
  have l3x1d1 := le_up 1 l3x1
  simp only [upN] at l3x1d0 l3x1d1
  have c3x2 := Own.cell O3 2 rfl
  have f3x2 := Own.free O3 2 rfl
  have l3x2 := Own.lt O3 2 rfl
  have l3x2d0 := le_up 0 l3x2
  have l3x2d1 := le_up 1 l3x2
  simp only [upN] at l3x2d0 l3x2d1
  have c3x3 := Own.cell O3 3 rfl
  have f3x3 := Own.free O3 3 rfl
  have l3x3 := Own.lt O3 3 rfl
  have l3x3d0 := le_up 0 l3x3
  have l3x3d1 := le_up 1 l3x3
  simp only [upN] at l3x3d0 l3x3d1
  have c3x4 := Own.cell O3 4 rfl
  have f3x4 := Own.free O3 4 rfl
  have l3x4 := Own.lt O3 4 rfl
  have l3x4d0 := le_up 0 l3x4
  have l3x4d1 := le_up 1 l3x4
  simp only [upN] at l3x4d0 l3x4d1
  have c3x5 := Own.cell O3 5 rfl
  have f3x5 := Own.free O3 5 rfl
  have l3x5 := Own.lt O3 5 rfl
  have l3x5d0 := le_up 0 l3x5
  have l3x5d1 := le_up 1 l3x5
  simp only [upN] at l3x5d0 l3x5d1
  have HO3 := Lib.hid O3
  clear O3 hb3
  go_wp2_with fail
  refine (fixed_any _ _).mono ?_
  rintro e w4 ⟨rfl, hb4⟩
  have O4 := Own.grow' hb4 HO3.out
  try simp only [List.setIfInBounds_toArray, List.set_cons_zero, List.set_cons_succ] at O4
  have bw4 : Below w.heap.size w w4 := Below.trans (by go_grown) (Below.mono hb4 (by first | omega | (simp; done) | (simp; omega)))
  have zw4 := Below.size hb4
  try simp only [World.size_alloc, World.size_drew, World.size_setCell] at zw4
  clear c3x0 f3x0 l3x0 l3x0d0 l3x0d1 c3x1 f3x1 l3x1 l3x1d0 l3x1d1 c3x2 f3x2 l3x2 l3x2d0 l3x2d1 c3x3 f3x3 l3x3 l3x3d0 l3x3d1 c3x4 f3x4 l3x4 l3x4d0 l3x4d1 c3x5 f3x5 l3x5 l3x5d0 l3x5d1
  have c4x0 := Own.cell O4 0 rfl
  have f4x0 := Own.free O4 0 rfl
  have l4x0 := Own.lt O4 0 rfl
  have l4x0d0 := le_up 0 l4x0
  have l4x0d1 := le_up 1 l4x0
  simp only [upN] at l4x0d0 l4x0d1
  have c4x1 := Own.cell O4 1 rfl
  have f4x1 := Own.free O4 1 rfl
  have l4x1 := Own.lt O4 1 rfl
  have l4x1d0 := le_up 0 l4x1
  have l4x1d1 := le_up 1 l4x1
  simp only [upN] at l4x1d0 l4x1d1
  have c4x2 := Own.cell O4 2 rfl
  have f4x2 := Own.free O4 2 rfl
  have l4x2 := Own.lt O4 2 rfl
  have l4x2d0 := le_up 0 l4x2
  have l4x2d1 := le_up 1 l4x2
  simp only [upN] at l4x2d0 l4x2d1
  have c4x3 := Own.cell O4 3 rfl
  have f4x3 := Own.free O4 3 rfl
  have l4x3 := Own.lt O4 3 rfl
  have l4x3d0 := le_up 0 l4x3
  have l4x3d1 := le_up 1 l4x3
  simp only [upN] at l4x3d0 l4x3d1
  have c4x4 := Own.cell O4 4 rfl
  have f4x4 := Own.free O4 4 rfl
  have l4x4 := Own.lt O4 4 rfl
  have l4x4d0 := le_up 0 l4x4
  have l4x4d1 := le_up 1 l4x4
  simp only [upN] at l4x4d0 l4x4d1
  have c4x5 := Own.cell O4 5 rfl
  have f4x5 := Own.free O4 5 rfl
  have l4x5 := Own.lt O4 5 rfl
  have l4x5d0 := le_up 0 l4x5
  have l4x5d1 := le_up 1 l4x5
  simp only [upN] at l4x5d0 l4x5d1
  have HO4 := Lib.hid O4
  clear O4 hb4
  go_wp2_with fail
  refine (fixed_any _ _).mono ?_
  rintro e w5 ⟨rfl, hb5⟩
  have O5 := Own.grow' hb5 HO4.out
  try simp only [List.setIfInBounds_toArray, List.set_cons_zero, List.set_cons_succ] at O5
  have bw5 : Below w.heap.size w w5 := Below.trans (by go_grown) (Below.mono hb5 (by first | omega | (simp; done) | (simp; omega)))
  have zw5 := Below.size hb5
  try simp only [World.size_alloc, World.size_drew, World.size_setCell] at zw5
  clear c4x0 f4x0 l4x0 l4x0d0 l4x0d1 c4x1 f4x1 l4x1 l4x1d0 l4x1d1 c4x2 f4x2 l4x2 l4x2d0 l4x2d1 c4x3 f4x3 l4x3 l4x3d0 l4x3d1 c4x4 f4x4 l4x4 l4x4d0 l4x4d1 c4x5 f4x5 l4x5 l4x5d0 l4x5d1
  have c5x0 := Own.cell O5 0 rfl
  have f5x0 := Own.free O5 0 rfl
  have l5x0 := Own.lt O5 0 rfl
  have l5x0d0 := le_up 0 l5x0
  have l5x0d1 := le_up 1 l5x0
  simp only [upN] at l5x0d0 l5x0d1
  have c5x1 := Own.cell O5 1 rfl
  have f5x1 := Own.free O5 1 rfl
  have l5x1 := Own.lt O5 1 rfl
  have l5x1d0 := le_up 0 l5x1
  have l5x1d1 := le_up 1 l5x1
  simp only [upN] at l5x1d0 l5x1d1
  have c5x2 := Own.cell O5 2 rfl
  have f5x2 := Own.free O5 2 rfl
  have l5x2 := Own.lt O5 2 rfl
  have l5x2d0 := le_up 0 l5x2
  have l5x2d1 := le_up 1 l5x2
  simp only [upN] at l5x2d0 l5x2d1
  have c5x3 := Own.cell O5 3 rfl
  have f5x3 := Own.free O5 3 rfl
  have l5x3 := Own.lt O5 3 rfl
  have l5x3d0 := le_up 0 l5x3
  have l5x3d1 := le_up 1 l5x3
  simp only [upN] at l5x3d0 l5x3d1
  have c5x4 := Own.cell O5 4 rfl
  have f5x4 := Own.free O5 4 rfl
  have l5x4 := Own.lt O5 4 rfl
  have l5x4d0 := le_up 0 l5x4
  have l5x4d1 := le_up 1 l5x4
  simp only [upN] at l5x4d0 l5x4d1
  have c5x5 := Own.cell O5 5 rfl
  have f5x5 := Own.free O5 5 rfl
  have l5x5 := Own.lt O5 5 rfl
  have l5x5d0 := le_up 0 l5x5
  have l5x5d1 := le_up 1 l5x5
  simp only [upN] at l5x5d0 l5x5d1
  have HO5 := Lib.hid O5
  clear O5 hb5
  go_wp2_with fail
  refine bodyPost_ret (v := .tuple #[.agg #[.int .u64 n, .int .u64 n, .int .u64 n, .int .u64 0], .agg #[.int .u64 m, .int .u64 m, .int .u64 m, .int .u64 0], .agg #[.int .u64 l, .int .u64 l, .int .u64 l, .int .u64 0]]) (by simp [results, Try.results7, go_sem, *]) rfl ?_
  exact ⟨rfl, by go_grown⟩
end Go.Proofs.Ytiglfbnicihpmaa
