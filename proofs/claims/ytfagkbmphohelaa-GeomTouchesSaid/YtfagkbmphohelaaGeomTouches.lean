/- Proved: Rows.GeomTouchesSaid: whether two shapes touch, which way, and how deep, is the document's. Conditions: none. -/
import Derived.Test.YtfagkbmphohelaaTouch7
import Derived.Test.YtfagkbmphohelaaGeom2
import Derived.Test.YtfagkbmphohelaaLift
namespace Go.Proofs.Ytfagkbmphohelaa
open Go.ChangeShapes Go.WideShapes Go.ChangeAt Go.RowKit Go.BigFrame

theorem touches_l (k x y z p1 p2 p3 k' x' y' z' q1 q2 q3 : Int) (h1 : shapeB k x y z = true) (h2 : shapeB k' x' y' z' = true) (w : World) : Calls Try.prog 76 #[.agg #[.int .i64 k, .int .i64 x, .int .i64 y, .int .i64 z], .agg #[.int .i64 p1, .int .i64 p2, .int .i64 p3], .agg #[.int .i64 k', .int .i64 x', .int .i64 y', .int .i64 z'], .agg #[.int .i64 q1, .int .i64 q2, .int .i64 q3]] w fun e w' => e = .returned (.tuple #[.agg #[.int .i64 (tx (touchT k x y z p1 p2 p3 k' x' y' z' q1 q2 q3)), .int .i64 (ty (touchT k x y z p1 p2 p3 k' x' y' z' q1 q2 q3)), .int .i64 (tz (touchT k x y z p1 p2 p3 k' x' y' z' q1 q2 q3))], .int .i64 (td (touchT k x y z p1 p2 p3 k' x' y' z' q1 q2 q3)), .bool (tk (touchT k x y z p1 p2 p3 k' x' y' z' q1 q2 q3))]) ∧ Below w.heap.size w w' := touches_c k x y z p1 p2 p3 k' x' y' z' q1 q2 q3 h1 h2 w
theorem rtouches_l (k x y z p1 p2 p3 k' x' y' z' q1 q2 q3 : Int) (h1 : shapeB k x y z = true) (h2 : shapeB k' x' y' z' = true) (w : World) : Calls Try.prog 77 #[.agg #[.int .i64 k, .int .i64 x, .int .i64 y, .int .i64 z], .agg #[.int .i64 p1, .int .i64 p2, .int .i64 p3], .agg #[.int .i64 k', .int .i64 x', .int .i64 y', .int .i64 z'], .agg #[.int .i64 q1, .int .i64 q2, .int .i64 q3]] w fun e w' => e = .returned (.tuple #[.agg #[.int .i64 (tx (touchT k x y z p1 p2 p3 k' x' y' z' q1 q2 q3)), .int .i64 (ty (touchT k x y z p1 p2 p3 k' x' y' z' q1 q2 q3)), .int .i64 (tz (touchT k x y z p1 p2 p3 k' x' y' z' q1 q2 q3))], .int .i64 (td (touchT k x y z p1 p2 p3 k' x' y' z' q1 q2 q3)), .bool (tk (touchT k x y z p1 p2 p3 k' x' y' z' q1 q2 q3))]) ∧ Below w.heap.size w w' := rtouches_c k x y z p1 p2 p3 k' x' y' z' q1 q2 q3 h1 h2 w
set_option maxHeartbeats 4000000 in
theorem gt0 (k x y z p1 p2 p3 k' x' y' z' q1 q2 q3 : Int) (s1 : shapeB k x y z = false) (w : World) : Calls Try.prog 11 #[.agg #[.int .i64 k, .int .i64 x, .int .i64 y, .int .i64 z], .agg #[.int .i64 p1, .int .i64 p2, .int .i64 p3], .agg #[.int .i64 k', .int .i64 x', .int .i64 y', .int .i64 z'], .agg #[.int .i64 q1, .int .i64 q2, .int .i64 q3]] w fun e w' => e = .returned (.bool true) ∧ Below w.heap.size w w' := by
  have hmc := more_cell
  have hmf := more_frozen
  have hml := more_lt
  go_enter Try.func11, Try.ntmps11
  go_wp2_with fail
  refine (rright_c _ _ _ _ _).mono ?_
  rintro e w1 ⟨rfl, hb1⟩
  have B1_0 : Blk w1 (w.heap.size) _ := Blk.below (by repeat (with_reducible (first | assumption | (apply Blk.at; simp; done) | apply Blk.alloc | apply Blk.drew | apply Blk.drewN | apply Blk.more | apply Blk.put | (apply Blk.far; focus (first | assumption | (apply Ne.symm; assumption) | (simp; done) | (simp <;> omega)))))) hb1
  obtain ⟨z1_0, c1_0, f1_0⟩ := id B1_0
  have B1_1 : Blk w1 (w.heap.size + 1) _ := Blk.below (by repeat (with_reducible (first | assumption | (apply Blk.at; simp; done) | apply Blk.alloc | apply Blk.drew | apply Blk.drewN | apply Blk.more | apply Blk.put | (apply Blk.far; focus (first | assumption | (apply Ne.symm; assumption) | (simp; done) | (simp <;> omega)))))) hb1
  obtain ⟨z1_1, c1_1, f1_1⟩ := id B1_1
  have B1_2 : Blk w1 (w.heap.size + 1 + 1) _ := Blk.below (by repeat (with_reducible (first | assumption | (apply Blk.at; simp; done) | apply Blk.alloc | apply Blk.drew | apply Blk.drewN | apply Blk.more | apply Blk.put | (apply Blk.far; focus (first | assumption | (apply Ne.symm; assumption) | (simp; done) | (simp <;> omega)))))) hb1
  obtain ⟨z1_2, c1_2, f1_2⟩ := id B1_2
  have B1_3 : Blk w1 (w.heap.size + 1 + 1 + 1) _ := Blk.below (by repeat (with_reducible (first | assumption | (apply Blk.at; simp; done) | apply Blk.alloc | apply Blk.drew | apply Blk.drewN | apply Blk.more | apply Blk.put | (apply Blk.far; focus (first | assumption | (apply Ne.symm; assumption) | (simp; done) | (simp <;> omega)))))) hb1
  obtain ⟨z1_3, c1_3, f1_3⟩ := id B1_3
  go_wp2
  exact bodyPost_ret (v := .bool true) (by simp [results, Try.results11, go_sem, *]) rfl ⟨rfl, (by repeat (with_reducible (first | exact Below.refl _ _ | assumption | apply ext_drew | apply ext_drewN | apply ext_alloc | apply ext_more | (refine ext_setCell ?_ (by simp <;> omega) _) | (refine ext_below ?_ (by assumption)))))⟩

set_option maxHeartbeats 4000000 in
theorem gt1 (k x y z p1 p2 p3 k' x' y' z' q1 q2 q3 : Int) (s1 : shapeB k x y z = true) (s2 : shapeB k' x' y' z' = false) (w : World) : Calls Try.prog 11 #[.agg #[.int .i64 k, .int .i64 x, .int .i64 y, .int .i64 z], .agg #[.int .i64 p1, .int .i64 p2, .int .i64 p3], .agg #[.int .i64 k', .int .i64 x', .int .i64 y', .int .i64 z'], .agg #[.int .i64 q1, .int .i64 q2, .int .i64 q3]] w fun e w' => e = .returned (.bool true) ∧ Below w.heap.size w w' := by
  have hmc := more_cell
  have hmf := more_frozen
  have hml := more_lt
  go_enter Try.func11, Try.ntmps11
  go_wp2_with fail
  refine (rright_c _ _ _ _ _).mono ?_
  rintro e w1 ⟨rfl, hb1⟩
  have B1_0 : Blk w1 (w.heap.size) _ := Blk.below (by repeat (with_reducible (first | assumption | (apply Blk.at; simp; done) | apply Blk.alloc | apply Blk.drew | apply Blk.drewN | apply Blk.more | apply Blk.put | (apply Blk.far; focus (first | assumption | (apply Ne.symm; assumption) | (simp; done) | (simp <;> omega)))))) hb1
  obtain ⟨z1_0, c1_0, f1_0⟩ := id B1_0
  have B1_1 : Blk w1 (w.heap.size + 1) _ := Blk.below (by repeat (with_reducible (first | assumption | (apply Blk.at; simp; done) | apply Blk.alloc | apply Blk.drew | apply Blk.drewN | apply Blk.more | apply Blk.put | (apply Blk.far; focus (first | assumption | (apply Ne.symm; assumption) | (simp; done) | (simp <;> omega)))))) hb1
  obtain ⟨z1_1, c1_1, f1_1⟩ := id B1_1
  have B1_2 : Blk w1 (w.heap.size + 1 + 1) _ := Blk.below (by repeat (with_reducible (first | assumption | (apply Blk.at; simp; done) | apply Blk.alloc | apply Blk.drew | apply Blk.drewN | apply Blk.more | apply Blk.put | (apply Blk.far; focus (first | assumption | (apply Ne.symm; assumption) | (simp; done) | (simp <;> omega)))))) hb1
  obtain ⟨z1_2, c1_2, f1_2⟩ := id B1_2
  have B1_3 : Blk w1 (w.heap.size + 1 + 1 + 1) _ := Blk.below (by repeat (with_reducible (first | assumption | (apply Blk.at; simp; done) | apply Blk.alloc | apply Blk.drew | apply Blk.drewN | apply Blk.more | apply Blk.put | (apply Blk.far; focus (first | assumption | (apply Ne.symm; assumption) | (simp; done) | (simp <;> omega)))))) hb1
  obtain ⟨z1_3, c1_3, f1_3⟩ := id B1_3
  go_wp2_with fail
  refine (rright_c _ _ _ _ _).mono ?_
  rintro e w2 ⟨rfl, hb2⟩
  have B2_0 : Blk w2 (w.heap.size) _ := Blk.below (by repeat (with_reducible (first | assumption | (apply Blk.at; simp; done) | apply Blk.alloc | apply Blk.drew | apply Blk.drewN | apply Blk.more | apply Blk.put | (apply Blk.far; focus (first | assumption | (apply Ne.symm; assumption) | (simp; done) | (simp <;> omega)))))) hb2
  obtain ⟨z2_0, c2_0, f2_0⟩ := id B2_0
  have B2_1 : Blk w2 (w.heap.size + 1) _ := Blk.below (by repeat (with_reducible (first | assumption | (apply Blk.at; simp; done) | apply Blk.alloc | apply Blk.drew | apply Blk.drewN | apply Blk.more | apply Blk.put | (apply Blk.far; focus (first | assumption | (apply Ne.symm; assumption) | (simp; done) | (simp <;> omega)))))) hb2
  obtain ⟨z2_1, c2_1, f2_1⟩ := id B2_1
  have B2_2 : Blk w2 (w.heap.size + 1 + 1) _ := Blk.below (by repeat (with_reducible (first | assumption | (apply Blk.at; simp; done) | apply Blk.alloc | apply Blk.drew | apply Blk.drewN | apply Blk.more | apply Blk.put | (apply Blk.far; focus (first | assumption | (apply Ne.symm; assumption) | (simp; done) | (simp <;> omega)))))) hb2
  obtain ⟨z2_2, c2_2, f2_2⟩ := id B2_2
  have B2_3 : Blk w2 (w.heap.size + 1 + 1 + 1) _ := Blk.below (by repeat (with_reducible (first | assumption | (apply Blk.at; simp; done) | apply Blk.alloc | apply Blk.drew | apply Blk.drewN | apply Blk.more | apply Blk.put | (apply Blk.far; focus (first | assumption | (apply Ne.symm; assumption) | (simp; done) | (simp <;> omega)))))) hb2
  obtain ⟨z2_3, c2_3, f2_3⟩ := id B2_3
  go_wp2
  exact bodyPost_ret (v := .bool true) (by simp [results, Try.results11, go_sem, *]) rfl ⟨rfl, (by repeat (with_reducible (first | exact Below.refl _ _ | assumption | apply ext_drew | apply ext_drewN | apply ext_alloc | apply ext_more | (refine ext_setCell ?_ (by simp <;> omega) _) | (refine ext_below ?_ (by assumption)))))⟩

set_option maxHeartbeats 4000000 in
theorem gt2 (k x y z p1 p2 p3 k' x' y' z' q1 q2 q3 : Int) (s1 : shapeB k x y z = true) (s2 : shapeB k' x' y' z' = true) (w : World) : Calls Try.prog 11 #[.agg #[.int .i64 k, .int .i64 x, .int .i64 y, .int .i64 z], .agg #[.int .i64 p1, .int .i64 p2, .int .i64 p3], .agg #[.int .i64 k', .int .i64 x', .int .i64 y', .int .i64 z'], .agg #[.int .i64 q1, .int .i64 q2, .int .i64 q3]] w fun e w' => e = .returned (.bool true) ∧ Below w.heap.size w w' := by
  have hmc := more_cell
  have hmf := more_frozen
  have hml := more_lt
  have H1 := Lib.hid s1
  have H2 := Lib.hid s2
  go_enter Try.func11, Try.ntmps11
  go_wp2_with fail
  refine (rright_c _ _ _ _ _).mono ?_
  rintro e w1 ⟨rfl, hb1⟩
  have B1_0 : Blk w1 (w.heap.size) _ := Blk.below (by repeat (with_reducible (first | assumption | (apply Blk.at; simp; done) | apply Blk.alloc | apply Blk.drew | apply Blk.drewN | apply Blk.more | apply Blk.put | (apply Blk.far; focus (first | assumption | (apply Ne.symm; assumption) | (simp; done) | (simp <;> omega)))))) hb1
  obtain ⟨z1_0, c1_0, f1_0⟩ := id B1_0
  have B1_1 : Blk w1 (w.heap.size + 1) _ := Blk.below (by repeat (with_reducible (first | assumption | (apply Blk.at; simp; done) | apply Blk.alloc | apply Blk.drew | apply Blk.drewN | apply Blk.more | apply Blk.put | (apply Blk.far; focus (first | assumption | (apply Ne.symm; assumption) | (simp; done) | (simp <;> omega)))))) hb1
  obtain ⟨z1_1, c1_1, f1_1⟩ := id B1_1
  have B1_2 : Blk w1 (w.heap.size + 1 + 1) _ := Blk.below (by repeat (with_reducible (first | assumption | (apply Blk.at; simp; done) | apply Blk.alloc | apply Blk.drew | apply Blk.drewN | apply Blk.more | apply Blk.put | (apply Blk.far; focus (first | assumption | (apply Ne.symm; assumption) | (simp; done) | (simp <;> omega)))))) hb1
  obtain ⟨z1_2, c1_2, f1_2⟩ := id B1_2
  have B1_3 : Blk w1 (w.heap.size + 1 + 1 + 1) _ := Blk.below (by repeat (with_reducible (first | assumption | (apply Blk.at; simp; done) | apply Blk.alloc | apply Blk.drew | apply Blk.drewN | apply Blk.more | apply Blk.put | (apply Blk.far; focus (first | assumption | (apply Ne.symm; assumption) | (simp; done) | (simp <;> omega)))))) hb1
  obtain ⟨z1_3, c1_3, f1_3⟩ := id B1_3
  go_wp2_with fail
  refine (rright_c _ _ _ _ _).mono ?_
  rintro e w2 ⟨rfl, hb2⟩
  have B2_0 : Blk w2 (w.heap.size) _ := Blk.below (by repeat (with_reducible (first | assumption | (apply Blk.at; simp; done) | apply Blk.alloc | apply Blk.drew | apply Blk.drewN | apply Blk.more | apply Blk.put | (apply Blk.far; focus (first | assumption | (apply Ne.symm; assumption) | (simp; done) | (simp <;> omega)))))) hb2
  obtain ⟨z2_0, c2_0, f2_0⟩ := id B2_0
  have B2_1 : Blk w2 (w.heap.size + 1) _ := Blk.below (by repeat (with_reducible (first | assumption | (apply Blk.at; simp; done) | apply Blk.alloc | apply Blk.drew | apply Blk.drewN | apply Blk.more | apply Blk.put | (apply Blk.far; focus (first | assumption | (apply Ne.symm; assumption) | (simp; done) | (simp <;> omega)))))) hb2
  obtain ⟨z2_1, c2_1, f2_1⟩ := id B2_1
  have B2_2 : Blk w2 (w.heap.size + 1 + 1) _ := Blk.below (by repeat (with_reducible (first | assumption | (apply Blk.at; simp; done) | apply Blk.alloc | apply Blk.drew | apply Blk.drewN | apply Blk.more | apply Blk.put | (apply Blk.far; focus (first | assumption | (apply Ne.symm; assumption) | (simp; done) | (simp <;> omega)))))) hb2
  obtain ⟨z2_2, c2_2, f2_2⟩ := id B2_2
  have B2_3 : Blk w2 (w.heap.size + 1 + 1 + 1) _ := Blk.below (by repeat (with_reducible (first | assumption | (apply Blk.at; simp; done) | apply Blk.alloc | apply Blk.drew | apply Blk.drewN | apply Blk.more | apply Blk.put | (apply Blk.far; focus (first | assumption | (apply Ne.symm; assumption) | (simp; done) | (simp <;> omega)))))) hb2
  obtain ⟨z2_3, c2_3, f2_3⟩ := id B2_3
  go_wp2_with fail
  refine (touches_l k x y z p1 p2 p3 k' x' y' z' q1 q2 q3 H1.out H2.out _).mono ?_
  rintro e w3 ⟨rfl, hb3⟩
  have B3_0 : Blk w3 (w.heap.size) _ := Blk.below (by repeat (with_reducible (first | assumption | (apply Blk.at; simp; done) | apply Blk.alloc | apply Blk.drew | apply Blk.drewN | apply Blk.more | apply Blk.put | (apply Blk.far; focus (first | assumption | (apply Ne.symm; assumption) | (simp; done) | (simp <;> omega)))))) hb3
  obtain ⟨z3_0, c3_0, f3_0⟩ := id B3_0
  have B3_1 : Blk w3 (w.heap.size + 1) _ := Blk.below (by repeat (with_reducible (first | assumption | (apply Blk.at; simp; done) | apply Blk.alloc | apply Blk.drew | apply Blk.drewN | apply Blk.more | apply Blk.put | (apply Blk.far; focus (first | assumption | (apply Ne.symm; assumption) | (simp; done) | (simp <;> omega)))))) hb3
  obtain ⟨z3_1, c3_1, f3_1⟩ := id B3_1
  have B3_2 : Blk w3 (w.heap.size + 1 + 1) _ := Blk.below (by repeat (with_reducible (first | assumption | (apply Blk.at; simp; done) | apply Blk.alloc | apply Blk.drew | apply Blk.drewN | apply Blk.more | apply Blk.put | (apply Blk.far; focus (first | assumption | (apply Ne.symm; assumption) | (simp; done) | (simp <;> omega)))))) hb3
  obtain ⟨z3_2, c3_2, f3_2⟩ := id B3_2
  have B3_3 : Blk w3 (w.heap.size + 1 + 1 + 1) _ := Blk.below (by repeat (with_reducible (first | assumption | (apply Blk.at; simp; done) | apply Blk.alloc | apply Blk.drew | apply Blk.drewN | apply Blk.more | apply Blk.put | (apply Blk.far; focus (first | assumption | (apply Ne.symm; assumption) | (simp; done) | (simp <;> omega)))))) hb3
  obtain ⟨z3_3, c3_3, f3_3⟩ := id B3_3
  go_wp2_with fail
  refine (rtouches_l k x y z p1 p2 p3 k' x' y' z' q1 q2 q3 H1.out H2.out _).mono ?_
  rintro e w4 ⟨rfl, hb4⟩
  have B4_0 : Blk w4 (w.heap.size) _ := Blk.below (by repeat (with_reducible (first | assumption | (apply Blk.at; simp; done) | apply Blk.alloc | apply Blk.drew | apply Blk.drewN | apply Blk.more | apply Blk.put | (apply Blk.far; focus (first | assumption | (apply Ne.symm; assumption) | (simp; done) | (simp <;> omega)))))) hb4
  obtain ⟨z4_0, c4_0, f4_0⟩ := id B4_0
  have B4_1 : Blk w4 (w.heap.size + 1) _ := Blk.below (by repeat (with_reducible (first | assumption | (apply Blk.at; simp; done) | apply Blk.alloc | apply Blk.drew | apply Blk.drewN | apply Blk.more | apply Blk.put | (apply Blk.far; focus (first | assumption | (apply Ne.symm; assumption) | (simp; done) | (simp <;> omega)))))) hb4
  obtain ⟨z4_1, c4_1, f4_1⟩ := id B4_1
  have B4_2 : Blk w4 (w.heap.size + 1 + 1) _ := Blk.below (by repeat (with_reducible (first | assumption | (apply Blk.at; simp; done) | apply Blk.alloc | apply Blk.drew | apply Blk.drewN | apply Blk.more | apply Blk.put | (apply Blk.far; focus (first | assumption | (apply Ne.symm; assumption) | (simp; done) | (simp <;> omega)))))) hb4
  obtain ⟨z4_2, c4_2, f4_2⟩ := id B4_2
  have B4_3 : Blk w4 (w.heap.size + 1 + 1 + 1) _ := Blk.below (by repeat (with_reducible (first | assumption | (apply Blk.at; simp; done) | apply Blk.alloc | apply Blk.drew | apply Blk.drewN | apply Blk.more | apply Blk.put | (apply Blk.far; focus (first | assumption | (apply Ne.symm; assumption) | (simp; done) | (simp <;> omega)))))) hb4
  obtain ⟨z4_3, c4_3, f4_3⟩ := id B4_3
  have B4_4 : Blk w4 (w3.heap.size) _ := Blk.below (by repeat (with_reducible (first | assumption | (apply Blk.at; simp; done) | apply Blk.alloc | apply Blk.drew | apply Blk.drewN | apply Blk.more | apply Blk.put | (apply Blk.far; focus (first | assumption | (apply Ne.symm; assumption) | (simp; done) | (simp <;> omega)))))) hb4
  try simp only [List.setIfInBounds_toArray, List.set_cons_zero, List.set_cons_succ] at B4_4
  obtain ⟨z4_4, c4_4, f4_4⟩ := id B4_4
  go_wp2
  exact bodyPost_ret (v := .bool true) (by simp [results, Try.results11, go_sem, *]) rfl ⟨rfl, (by repeat (with_reducible (first | exact Below.refl _ _ | assumption | apply ext_drew | apply ext_drewN | apply ext_alloc | apply ext_more | (refine ext_setCell ?_ (by simp <;> omega) _) | (refine ext_below ?_ (by assumption)))))⟩

theorem geomTouches_w (k x y z p1 p2 p3 k' x' y' z' q1 q2 q3 : Int) (w : World) : Calls Try.prog 11 #[.agg #[.int .i64 k, .int .i64 x, .int .i64 y, .int .i64 z], .agg #[.int .i64 p1, .int .i64 p2, .int .i64 p3], .agg #[.int .i64 k', .int .i64 x', .int .i64 y', .int .i64 z'], .agg #[.int .i64 q1, .int .i64 q2, .int .i64 q3]] w fun e w' => e = .returned (.bool true) ∧ Below w.heap.size w w' := by
  by_cases s1 : shapeB k x y z = true
  · by_cases s2 : shapeB k' x' y' z' = true
    · exact gt2 k x y z p1 p2 p3 k' x' y' z' q1 q2 q3 s1 s2 w
    · exact gt1 k x y z p1 p2 p3 k' x' y' z' q1 q2 q3 s1 (by simpa using s2) w
  · exact gt0 k x y z p1 p2 p3 k' x' y' z' q1 q2 q3 (by simpa using s1) w

set_option maxRecDepth 100000 in
theorem geomTouches_lifted (os : Os) (started : os.Started) (H : Type) (enc : TypeId × Value → H) :
    ReturnsInHanded {} Try.checked os 11 .any (Rows.geomTouchesSpec.pre6 enc Try.prog Try.f11 Rows.geomTouchesRow.domain false) (Rows.geomTouchesSpec.post enc Try.prog Try.f11 false true false false) := by
  refine returnsInHanded_of_change (C := Try.checked) own started (by kernel_rfl) Try.func11
    (ChangeSpec.witness6 (enc := enc) (C := Try.checked) false ⟨#[], #[.agg #[.int .i64 0, .int .i64 0, .int .i64 0, .int .i64 0], .agg #[.int .i64 0, .int .i64 0, .int .i64 0], .agg #[.int .i64 0, .int .i64 0, .int .i64 0, .int .i64 0], .agg #[.int .i64 0, .int .i64 0, .int .i64 0]], []⟩ 8 (by kernel_rfl) (by kernel_rfl) (by kernel_rfl) (by kernel_rfl)) ?_
  intro W base args ds gs before hval0 hW hcnd _
  have hval : ∀ (j : Nat) t v, Try.f11.params[j]? = some t → args[j]? = some v → Value.okWide Try.prog W .any base t v := hval0
  obtain ⟨p, q, hA0, _⟩ := id hW
  have hsz := (trodAll_length _ _ _ _ hA0).1
  obtain ⟨v0, v1, v2, v3, rfl⟩ : ∃ v0 v1 v2 v3, args = #[v0, v1, v2, v3] := by
    rcases args with ⟨_ | ⟨v0, _ | ⟨v1, _ | ⟨v2, _ | ⟨v3, _ | ⟨v4, l⟩⟩⟩⟩⟩⟩ <;> first | exact ⟨v0, v1, v2, v3, rfl⟩ | (simp [Try.params11] at hsz)
  obtain ⟨l0, e0, rfl, b0⟩ := agg_of_ok 4 Try.underlying3 Try.underlying25 (by kernel_rfl) (by kernel_rfl) (hval 0 25 v0 (by rw [Try.params11]; rfl) rfl)
  obtain ⟨a0_0, a0_1, a0_2, a0_3, rfl⟩ := list4 l0 e0
  obtain ⟨l1, e1, rfl, b1⟩ := agg_of_ok 3 Try.underlying3 Try.underlying23 (by kernel_rfl) (by kernel_rfl) (hval 1 23 v1 (by rw [Try.params11]; rfl) rfl)
  obtain ⟨a1_0, a1_1, a1_2, rfl⟩ := list3 l1 e1
  obtain ⟨l2, e2, rfl, b2⟩ := agg_of_ok 4 Try.underlying3 Try.underlying25 (by kernel_rfl) (by kernel_rfl) (hval 2 25 v2 (by rw [Try.params11]; rfl) rfl)
  obtain ⟨a2_0, a2_1, a2_2, a2_3, rfl⟩ := list4 l2 e2
  obtain ⟨l3, e3, rfl, b3⟩ := agg_of_ok 3 Try.underlying3 Try.underlying23 (by kernel_rfl) (by kernel_rfl) (hval 3 23 v3 (by rw [Try.params11]; rfl) rfl)
  obtain ⟨a3_0, a3_1, a3_2, rfl⟩ := list3 l3 e3
  refine (geomTouches_w a0_0 a0_1 a0_2 a0_3 a1_0 a1_1 a1_2 a2_0 a2_1 a2_2 a2_3 a3_0 a3_1 a3_2 W).mono fun e W' ⟨he, hb⟩ => ⟨_, he, ?_⟩
  exact law_post laid (by kernel_rfl) (by kernel_rfl) Try.underlying4 rfl (fun ds h => by match ds, h with | [d0, d1, d2, d3], _ => rfl) hW hb

theorem geomTouches_over : Rows.geomTouchesRow.holds Try.pinned (OpenSpec.ofChange Rows.geomTouchesSpec) :=
  OpenClaim.holds_of_wide 11 Try.f11 rfl rfl rfl rfl rfl rfl rfl ⟨rfl, rfl, rfl, rfl, rfl⟩ rfl rfl rfl rfl rfl (by kernel_rfl) Try.func11 (by kernel_rfl)
    (of_decide_eq_true (by kernel_rfl)) (by unfold Func.isWrapper; first | (rw [if_pos (by decide +kernel)]; kernel_rfl) | (rw [if_neg (by decide +kernel)]; exact ⟨rfl, rfl⟩))
    (fun os started H enc _ => geomTouches_lifted os started H enc)

theorem geomTouches_holds : Rows.GeomTouchesSaid := geomTouches_over
#print axioms geomTouches_holds
end Go.Proofs.Ytfagkbmphohelaa
