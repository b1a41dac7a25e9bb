/- The contract of gyreref.Touches. Conditions: shapes that may be. -/
import Derived.Test.YtfagkbmphohelaaTouch6
namespace Go.Proofs.Ytfagkbmphohelaa
open Go.ChangeShapes Go.WideShapes Go.ChangeAt Go.RowKit Go.BigFrame

set_option maxHeartbeats 4000000 in
theorem rt_bb0 (k x y z p1 p2 p3 k' x' y' z' q1 q2 q3  : Int) (e1 : (k == 1) = true) (e2 : (k' == 1) = true) (hd : sub (add x x') (long (sub q1 p1) (sub q2 p2) (sub q3 p3)) ≤ 0) (w : World) : Calls Try.prog 77 #[.agg #[.int .i64 k, .int .i64 x, .int .i64 y, .int .i64 z], .agg #[.int .i64 p1, .int .i64 p2, .int .i64 p3], .agg #[.int .i64 k', .int .i64 x', .int .i64 y', .int .i64 z'], .agg #[.int .i64 q1, .int .i64 q2, .int .i64 q3]] w fun e w' => e = .returned (.tuple #[.agg #[.int .i64 0, .int .i64 0, .int .i64 0], .int .i64 0, .bool false]) ∧ Below w.heap.size w w' := by
  have hmc := more_cell
  have hmf := more_frozen
  have hml := more_lt
  go_enter Try.func77, Try.ntmps77
  go_wp2_with fail
  refine (rminus_c _ _ _ _ _ _ _).mono ?_
  rintro e w1 ⟨rfl, hb1⟩
  have B1_0 : Blk w1 (w.heap.size) _ := Blk.below (by repeat (with_reducible (first | assumption | (apply Blk.at; simp; done) | apply Blk.alloc | apply Blk.drew | apply Blk.drewN | apply Blk.more | apply Blk.put | (apply Blk.far; focus (first | assumption | (apply Ne.symm; assumption) | (simp; done) | (simp <;> omega)))))) hb1
  obtain ⟨z1_0, c1_0, f1_0⟩ := id B1_0
  have B1_1 : Blk w1 (w.heap.size + 1) _ := Blk.below (by repeat (with_reducible (first | assumption | (apply Blk.at; simp; done) | apply Blk.alloc | apply Blk.drew | apply Blk.drewN | apply Blk.more | apply Blk.put | (apply Blk.far; focus (first | assumption | (apply Ne.symm; assumption) | (simp; done) | (simp <;> omega)))))) hb1
  obtain ⟨z1_1, c1_1, f1_1⟩ := id B1_1
  have B1_2 : Blk w1 (w.heap.size + 1 + 1) _ := Blk.below (by repeat (with_reducible (first | assumption | (apply Blk.at; simp; done) | apply Blk.alloc | apply Blk.drew | apply Blk.drewN | apply Blk.more | apply Blk.put | (apply Blk.far; focus (first | assumption | (apply Ne.symm; assumption) | (simp; done) | (simp <;> omega)))))) hb1
  obtain ⟨z1_2, c1_2, f1_2⟩ := id B1_2
  have B1_3 : Blk w1 (w.heap.size + 1 + 1 + 1) _ := Blk.below (by repeat (with_reducible (first | assumption | (apply Blk.at; simp; done) | apply Blk.alloc | apply Blk.drew | apply Blk.drewN | apply Blk.more | apply Blk.put | (apply Blk.far; focus (first | assumption | (apply Ne.symm; assumption) | (simp; done) | (simp <;> omega)))))) hb1
  obtain ⟨z1_3, c1_3, f1_3⟩ := id B1_3
  have B1_4 : Blk w1 (w.heap.size + 1 + 1 + 1 + 1) _ := Blk.below (by repeat (with_reducible (first | assumption | (apply Blk.at; simp; done) | apply Blk.alloc | apply Blk.drew | apply Blk.drewN | apply Blk.more | apply Blk.put | (apply Blk.far; focus (first | assumption | (apply Ne.symm; assumption) | (simp; done) | (simp <;> omega)))))) hb1
  obtain ⟨z1_4, c1_4, f1_4⟩ := id B1_4
  have B1_5 : Blk w1 (w.heap.size + 1 + 1 + 1 + 1 + 1) _ := Blk.below (by repeat (with_reducible (first | assumption | (apply Blk.at; simp; done) | apply Blk.alloc | apply Blk.drew | apply Blk.drewN | apply Blk.more | apply Blk.put | (apply Blk.far; focus (first | assumption | (apply Ne.symm; assumption) | (simp; done) | (simp <;> omega)))))) hb1
  obtain ⟨z1_5, c1_5, f1_5⟩ := id B1_5
  go_wp2_with fail
  refine wp_fresh ?_
  rintro w2 hb2
  have B2_0 : Blk w2 (w.heap.size) _ := Blk.below (by repeat (with_reducible (first | assumption | (apply Blk.at; simp; done) | apply Blk.alloc | apply Blk.drew | apply Blk.drewN | apply Blk.more | apply Blk.put | (apply Blk.far; focus (first | assumption | (apply Ne.symm; assumption) | (simp; done) | (simp <;> omega)))))) hb2
  obtain ⟨z2_0, c2_0, f2_0⟩ := id B2_0
  have B2_1 : Blk w2 (w.heap.size + 1) _ := Blk.below (by repeat (with_reducible (first | assumption | (apply Blk.at; simp; done) | apply Blk.alloc | apply Blk.drew | apply Blk.drewN | apply Blk.more | apply Blk.put | (apply Blk.far; focus (first | assumption | (apply Ne.symm; assumption) | (simp; done) | (simp <;> omega)))))) hb2
  obtain ⟨z2_1, c2_1, f2_1⟩ := id B2_1
  have B2_2 : Blk w2 (w.heap.size + 1 + 1) _ := Blk.below (by repeat (with_reducible (first | assumption | (apply Blk.at; simp; done) | apply Blk.alloc | apply Blk.drew | apply Blk.drewN | apply Blk.more | apply Blk.put | (apply Blk.far; focus (first | assumption | (apply Ne.symm; assumption) | (simp; done) | (simp <;> omega)))))) hb2
  obtain ⟨z2_2, c2_2, f2_2⟩ := id B2_2
  have B2_3 : Blk w2 (w.heap.size + 1 + 1 + 1) _ := Blk.below (by repeat (with_reducible (first | assumption | (apply Blk.at; simp; done) | apply Blk.alloc | apply Blk.drew | apply Blk.drewN | apply Blk.more | apply Blk.put | (apply Blk.far; focus (first | assumption | (apply Ne.symm; assumption) | (simp; done) | (simp <;> omega)))))) hb2
  obtain ⟨z2_3, c2_3, f2_3⟩ := id B2_3
  have B2_4 : Blk w2 (w.heap.size + 1 + 1 + 1 + 1) _ := Blk.below (by repeat (with_reducible (first | assumption | (apply Blk.at; simp; done) | apply Blk.alloc | apply Blk.drew | apply Blk.drewN | apply Blk.more | apply Blk.put | (apply Blk.far; focus (first | assumption | (apply Ne.symm; assumption) | (simp; done) | (simp <;> omega)))))) hb2
  obtain ⟨z2_4, c2_4, f2_4⟩ := id B2_4
  have B2_5 : Blk w2 (w.heap.size + 1 + 1 + 1 + 1 + 1) _ := Blk.below (by repeat (with_reducible (first | assumption | (apply Blk.at; simp; done) | apply Blk.alloc | apply Blk.drew | apply Blk.drewN | apply Blk.more | apply Blk.put | (apply Blk.far; focus (first | assumption | (apply Ne.symm; assumption) | (simp; done) | (simp <;> omega)))))) hb2
  obtain ⟨z2_5, c2_5, f2_5⟩ := id B2_5
  have B2_6 : Blk w2 (w1.heap.size) _ := Blk.below (by repeat (with_reducible (first | assumption | (apply Blk.at; simp; done) | apply Blk.alloc | apply Blk.drew | apply Blk.drewN | apply Blk.more | apply Blk.put | (apply Blk.far; focus (first | assumption | (apply Ne.symm; assumption) | (simp; done) | (simp <;> omega)))))) hb2
  try simp only [List.setIfInBounds_toArray, List.set_cons_zero, List.set_cons_succ] at B2_6
  obtain ⟨z2_6, c2_6, f2_6⟩ := id B2_6
  refine region_quiet_but 12 (by kernel_rfl) (by kernel_rfl) ?_
  simp only [List.take_succ_cons, List.take_zero, List.drop_succ_cons, List.drop_zero]
  repeat (go_big_quiet_step (first | (go_at_call 69; exact calls_after (runit_c _ _ _ _)) | (go_at_call 52; exact calls_after_same (radd_c _ _ _)) | (go_at_call 67; exact calls_after (rlong_c _ _ _ _)) | (go_at_call 53; exact calls_after_same (rsub_c _ _ _))))
  refine wpQuiet_nil ?_
  rintro w3 hw3
  have hb3 := after_below hw3
  clear hw3
  have B3_0 : Blk w3 (w.heap.size) _ := Blk.below (by repeat (with_reducible (first | assumption | (apply Blk.at; simp; done) | apply Blk.alloc | apply Blk.drew | apply Blk.drewN | apply Blk.more | apply Blk.put | (apply Blk.far; focus (first | assumption | (apply Ne.symm; assumption) | (simp; done) | (simp <;> omega)))))) hb3
  obtain ⟨z3_0, c3_0, f3_0⟩ := id B3_0
  have B3_1 : Blk w3 (w.heap.size + 1) _ := Blk.below (by repeat (with_reducible (first | assumption | (apply Blk.at; simp; done) | apply Blk.alloc | apply Blk.drew | apply Blk.drewN | apply Blk.more | apply Blk.put | (apply Blk.far; focus (first | assumption | (apply Ne.symm; assumption) | (simp; done) | (simp <;> omega)))))) hb3
  obtain ⟨z3_1, c3_1, f3_1⟩ := id B3_1
  have B3_2 : Blk w3 (w.heap.size + 1 + 1) _ := Blk.below (by repeat (with_reducible (first | assumption | (apply Blk.at; simp; done) | apply Blk.alloc | apply Blk.drew | apply Blk.drewN | apply Blk.more | apply Blk.put | (apply Blk.far; focus (first | assumption | (apply Ne.symm; assumption) | (simp; done) | (simp <;> omega)))))) hb3
  obtain ⟨z3_2, c3_2, f3_2⟩ := id B3_2
  have B3_3 : Blk w3 (w.heap.size + 1 + 1 + 1) _ := Blk.below (by repeat (with_reducible (first | assumption | (apply Blk.at; simp; done) | apply Blk.alloc | apply Blk.drew | apply Blk.drewN | apply Blk.more | apply Blk.put | (apply Blk.far; focus (first | assumption | (apply Ne.symm; assumption) | (simp; done) | (simp <;> omega)))))) hb3
  obtain ⟨z3_3, c3_3, f3_3⟩ := id B3_3
  have B3_4 : Blk w3 (w.heap.size + 1 + 1 + 1 + 1) _ := Blk.below (by repeat (with_reducible (first | assumption | (apply Blk.at; simp; done) | apply Blk.alloc | apply Blk.drew | apply Blk.drewN | apply Blk.more | apply Blk.put | (apply Blk.far; focus (first | assumption | (apply Ne.symm; assumption) | (simp; done) | (simp <;> omega)))))) hb3
  obtain ⟨z3_4, c3_4, f3_4⟩ := id B3_4
  have B3_5 : Blk w3 (w.heap.size + 1 + 1 + 1 + 1 + 1) _ := Blk.below (by repeat (with_reducible (first | assumption | (apply Blk.at; simp; done) | apply Blk.alloc | apply Blk.drew | apply Blk.drewN | apply Blk.more | apply Blk.put | (apply Blk.far; focus (first | assumption | (apply Ne.symm; assumption) | (simp; done) | (simp <;> omega)))))) hb3
  obtain ⟨z3_5, c3_5, f3_5⟩ := id B3_5
  have B3_6 : Blk w3 (w1.heap.size) _ := Blk.below (by repeat (with_reducible (first | assumption | (apply Blk.at; simp; done) | apply Blk.alloc | apply Blk.drew | apply Blk.drewN | apply Blk.more | apply Blk.put | (apply Blk.far; focus (first | assumption | (apply Ne.symm; assumption) | (simp; done) | (simp <;> omega)))))) hb3
  obtain ⟨z3_6, c3_6, f3_6⟩ := id B3_6
  go_wp2
  exact bodyPost_ret (v := .tuple #[.agg #[.int .i64 0, .int .i64 0, .int .i64 0], .int .i64 0, .bool false]) (by simp [results, Try.results77, go_sem, *]) rfl ⟨rfl, (by repeat (with_reducible (first | exact Below.refl _ _ | assumption | apply ext_drew | apply ext_drewN | apply ext_alloc | apply ext_more | (refine ext_setCell ?_ (by simp <;> omega) _) | (refine ext_below ?_ (by assumption)))))⟩

set_option maxHeartbeats 4000000 in
theorem rt_bb1 (k x y z p1 p2 p3 k' x' y' z' q1 q2 q3  : Int) (e1 : (k == 1) = true) (e2 : (k' == 1) = true) (hd : 0 < sub (add x x') (long (sub q1 p1) (sub q2 p2) (sub q3 p3))) (w : World) : Calls Try.prog 77 #[.agg #[.int .i64 k, .int .i64 x, .int .i64 y, .int .i64 z], .agg #[.int .i64 p1, .int .i64 p2, .int .i64 p3], .agg #[.int .i64 k', .int .i64 x', .int .i64 y', .int .i64 z'], .agg #[.int .i64 q1, .int .i64 q2, .int .i64 q3]] w fun e w' => e = .returned (.tuple #[.agg #[.int .i64 (unit1 (sub q1 p1) (sub q2 p2) (sub q3 p3)), .int .i64 (unit2 (sub q1 p1) (sub q2 p2) (sub q3 p3)), .int .i64 (unit3 (sub q1 p1) (sub q2 p2) (sub q3 p3))], .int .i64 (sub (add x x') (long (sub q1 p1) (sub q2 p2) (sub q3 p3))), .bool true]) ∧ Below w.heap.size w w' := by
  have hmc := more_cell
  have hmf := more_frozen
  have hml := more_lt
  go_enter Try.func77, Try.ntmps77
  go_wp2_with fail
  refine (rminus_c _ _ _ _ _ _ _).mono ?_
  rintro e w1 ⟨rfl, hb1⟩
  have B1_0 : Blk w1 (w.heap.size) _ := Blk.below (by repeat (with_reducible (first | assumption | (apply Blk.at; simp; done) | apply Blk.alloc | apply Blk.drew | apply Blk.drewN | apply Blk.more | apply Blk.put | (apply Blk.far; focus (first | assumption | (apply Ne.symm; assumption) | (simp; done) | (simp <;> omega)))))) hb1
  obtain ⟨z1_0, c1_0, f1_0⟩ := id B1_0
  have B1_1 : Blk w1 (w.heap.size + 1) _ := Blk.below (by repeat (with_reducible (first | assumption | (apply Blk.at; simp; done) | apply Blk.alloc | apply Blk.drew | apply Blk.drewN | apply Blk.more | apply Blk.put | (apply Blk.far; focus (first | assumption | (apply Ne.symm; assumption) | (simp; done) | (simp <;> omega)))))) hb1
  obtain ⟨z1_1, c1_1, f1_1⟩ := id B1_1
  have B1_2 : Blk w1 (w.heap.size + 1 + 1) _ := Blk.below (by repeat (with_reducible (first | assumption | (apply Blk.at; simp; done) | apply Blk.alloc | apply Blk.drew | apply Blk.drewN | apply Blk.more | apply Blk.put | (apply Blk.far; focus (first | assumption | (apply Ne.symm; assumption) | (simp; done) | (simp <;> omega)))))) hb1
  obtain ⟨z1_2, c1_2, f1_2⟩ := id B1_2
  have B1_3 : Blk w1 (w.heap.size + 1 + 1 + 1) _ := Blk.below (by repeat (with_reducible (first | assumption | (apply Blk.at; simp; done) | apply Blk.alloc | apply Blk.drew | apply Blk.drewN | apply Blk.more | apply Blk.put | (apply Blk.far; focus (first | assumption | (apply Ne.symm; assumption) | (simp; done) | (simp <;> omega)))))) hb1
  obtain ⟨z1_3, c1_3, f1_3⟩ := id B1_3
  have B1_4 : Blk w1 (w.heap.size + 1 + 1 + 1 + 1) _ := Blk.below (by repeat (with_reducible (first | assumption | (apply Blk.at; simp; done) | apply Blk.alloc | apply Blk.drew | apply Blk.drewN | apply Blk.more | apply Blk.put | (apply Blk.far; focus (first | assumption | (apply Ne.symm; assumption) | (simp; done) | (simp <;> omega)))))) hb1
  obtain ⟨z1_4, c1_4, f1_4⟩ := id B1_4
  have B1_5 : Blk w1 (w.heap.size + 1 + 1 + 1 + 1 + 1) _ := Blk.below (by repeat (with_reducible (first | assumption | (apply Blk.at; simp; done) | apply Blk.alloc | apply Blk.drew | apply Blk.drewN | apply Blk.more | apply Blk.put | (apply Blk.far; focus (first | assumption | (apply Ne.symm; assumption) | (simp; done) | (simp <;> omega)))))) hb1
  obtain ⟨z1_5, c1_5, f1_5⟩ := id B1_5
  go_wp2_with fail
  refine wp_fresh ?_
  rintro w2 hb2
  have B2_0 : Blk w2 (w.heap.size) _ := Blk.below (by repeat (with_reducible (first | assumption | (apply Blk.at; simp; done) | apply Blk.alloc | apply Blk.drew | apply Blk.drewN | apply Blk.more | apply Blk.put | (apply Blk.far; focus (first | assumption | (apply Ne.symm; assumption) | (simp; done) | (simp <;> omega)))))) hb2
  obtain ⟨z2_0, c2_0, f2_0⟩ := id B2_0
  have B2_1 : Blk w2 (w.heap.size + 1) _ := Blk.below (by repeat (with_reducible (first | assumption | (apply Blk.at; simp; done) | apply Blk.alloc | apply Blk.drew | apply Blk.drewN | apply Blk.more | apply Blk.put | (apply Blk.far; focus (first | assumption | (apply Ne.symm; assumption) | (simp; done) | (simp <;> omega)))))) hb2
  obtain ⟨z2_1, c2_1, f2_1⟩ := id B2_1
  have B2_2 : Blk w2 (w.heap.size + 1 + 1) _ := Blk.below (by repeat (with_reducible (first | assumption | (apply Blk.at; simp; done) | apply Blk.alloc | apply Blk.drew | apply Blk.drewN | apply Blk.more | apply Blk.put | (apply Blk.far; focus (first | assumption | (apply Ne.symm; assumption) | (simp; done) | (simp <;> omega)))))) hb2
  obtain ⟨z2_2, c2_2, f2_2⟩ := id B2_2
  have B2_3 : Blk w2 (w.heap.size + 1 + 1 + 1) _ := Blk.below (by repeat (with_reducible (first | assumption | (apply Blk.at; simp; done) | apply Blk.alloc | apply Blk.drew | apply Blk.drewN | apply Blk.more | apply Blk.put | (apply Blk.far; focus (first | assumption | (apply Ne.symm; assumption) | (simp; done) | (simp <;> omega)))))) hb2
  obtain ⟨z2_3, c2_3, f2_3⟩ := id B2_3
  have B2_4 : Blk w2 (w.heap.size + 1 + 1 + 1 + 1) _ := Blk.below (by repeat (with_reducible (first | assumption | (apply Blk.at; simp; done) | apply Blk.alloc | apply Blk.drew | apply Blk.drewN | apply Blk.more | apply Blk.put | (apply Blk.far; focus (first | assumption | (apply Ne.symm; assumption) | (simp; done) | (simp <;> omega)))))) hb2
  obtain ⟨z2_4, c2_4, f2_4⟩ := id B2_4
  have B2_5 : Blk w2 (w.heap.size + 1 + 1 + 1 + 1 + 1) _ := Blk.below (by repeat (with_reducible (first | assumption | (apply Blk.at; simp; done) | apply Blk.alloc | apply Blk.drew | apply Blk.drewN | apply Blk.more | apply Blk.put | (apply Blk.far; focus (first | assumption | (apply Ne.symm; assumption) | (simp; done) | (simp <;> omega)))))) hb2
  obtain ⟨z2_5, c2_5, f2_5⟩ := id B2_5
  have B2_6 : Blk w2 (w1.heap.size) _ := Blk.below (by repeat (with_reducible (first | assumption | (apply Blk.at; simp; done) | apply Blk.alloc | apply Blk.drew | apply Blk.drewN | apply Blk.more | apply Blk.put | (apply Blk.far; focus (first | assumption | (apply Ne.symm; assumption) | (simp; done) | (simp <;> omega)))))) hb2
  try simp only [List.setIfInBounds_toArray, List.set_cons_zero, List.set_cons_succ] at B2_6
  obtain ⟨z2_6, c2_6, f2_6⟩ := id B2_6
  refine region_quiet_but 12 (by kernel_rfl) (by kernel_rfl) ?_
  simp only [List.take_succ_cons, List.take_zero, List.drop_succ_cons, List.drop_zero]
  repeat (go_big_quiet_step (first | (go_at_call 69; exact calls_after (runit_c _ _ _ _)) | (go_at_call 52; exact calls_after_same (radd_c _ _ _)) | (go_at_call 67; exact calls_after (rlong_c _ _ _ _)) | (go_at_call 53; exact calls_after_same (rsub_c _ _ _))))
  refine wpQuiet_nil ?_
  rintro w3 hw3
  have hb3 := after_below hw3
  clear hw3
  have B3_0 : Blk w3 (w.heap.size) _ := Blk.below (by repeat (with_reducible (first | assumption | (apply Blk.at; simp; done) | apply Blk.alloc | apply Blk.drew | apply Blk.drewN | apply Blk.more | apply Blk.put | (apply Blk.far; focus (first | assumption | (apply Ne.symm; assumption) | (simp; done) | (simp <;> omega)))))) hb3
  obtain ⟨z3_0, c3_0, f3_0⟩ := id B3_0
  have B3_1 : Blk w3 (w.heap.size + 1) _ := Blk.below (by repeat (with_reducible (first | assumption | (apply Blk.at; simp; done) | apply Blk.alloc | apply Blk.drew | apply Blk.drewN | apply Blk.more | apply Blk.put | (apply Blk.far; focus (first | assumption | (apply Ne.symm; assumption) | (simp; done) | (simp <;> omega)))))) hb3
  obtain ⟨z3_1, c3_1, f3_1⟩ := id B3_1
  have B3_2 : Blk w3 (w.heap.size + 1 + 1) _ := Blk.below (by repeat (with_reducible (first | assumption | (apply Blk.at; simp; done) | apply Blk.alloc | apply Blk.drew | apply Blk.drewN | apply Blk.more | apply Blk.put | (apply Blk.far; focus (first | assumption | (apply Ne.symm; assumption) | (simp; done) | (simp <;> omega)))))) hb3
  obtain ⟨z3_2, c3_2, f3_2⟩ := id B3_2
  have B3_3 : Blk w3 (w.heap.size + 1 + 1 + 1) _ := Blk.below (by repeat (with_reducible (first | assumption | (apply Blk.at; simp; done) | apply Blk.alloc | apply Blk.drew | apply Blk.drewN | apply Blk.more | apply Blk.put | (apply Blk.far; focus (first | assumption | (apply Ne.symm; assumption) | (simp; done) | (simp <;> omega)))))) hb3
  obtain ⟨z3_3, c3_3, f3_3⟩ := id B3_3
  have B3_4 : Blk w3 (w.heap.size + 1 + 1 + 1 + 1) _ := Blk.below (by repeat (with_reducible (first | assumption | (apply Blk.at; simp; done) | apply Blk.alloc | apply Blk.drew | apply Blk.drewN | apply Blk.more | apply Blk.put | (apply Blk.far; focus (first | assumption | (apply Ne.symm; assumption) | (simp; done) | (simp <;> omega)))))) hb3
  obtain ⟨z3_4, c3_4, f3_4⟩ := id B3_4
  have B3_5 : Blk w3 (w.heap.size + 1 + 1 + 1 + 1 + 1) _ := Blk.below (by repeat (with_reducible (first | assumption | (apply Blk.at; simp; done) | apply Blk.alloc | apply Blk.drew | apply Blk.drewN | apply Blk.more | apply Blk.put | (apply Blk.far; focus (first | assumption | (apply Ne.symm; assumption) | (simp; done) | (simp <;> omega)))))) hb3
  obtain ⟨z3_5, c3_5, f3_5⟩ := id B3_5
  have B3_6 : Blk w3 (w1.heap.size) _ := Blk.below (by repeat (with_reducible (first | assumption | (apply Blk.at; simp; done) | apply Blk.alloc | apply Blk.drew | apply Blk.drewN | apply Blk.more | apply Blk.put | (apply Blk.far; focus (first | assumption | (apply Ne.symm; assumption) | (simp; done) | (simp <;> omega)))))) hb3
  obtain ⟨z3_6, c3_6, f3_6⟩ := id B3_6
  go_wp2
  exact bodyPost_ret (v := .tuple #[.agg #[.int .i64 (unit1 (sub q1 p1) (sub q2 p2) (sub q3 p3)), .int .i64 (unit2 (sub q1 p1) (sub q2 p2) (sub q3 p3)), .int .i64 (unit3 (sub q1 p1) (sub q2 p2) (sub q3 p3))], .int .i64 (sub (add x x') (long (sub q1 p1) (sub q2 p2) (sub q3 p3))), .bool true]) (by simp [results, Try.results77, go_sem, *]) rfl ⟨rfl, (by repeat (with_reducible (first | exact Below.refl _ _ | assumption | apply ext_drew | apply ext_drewN | apply ext_alloc | apply ext_more | (refine ext_setCell ?_ (by simp <;> omega) _) | (refine ext_below ?_ (by assumption)))))⟩

set_option maxHeartbeats 4000000 in
theorem rt_ba00 (k x y z p1 p2 p3 k' x' y' z' q1 q2 q3 n1 n2 n3 : Int) (e1 : (k == 1) = true) (e2 : (k' == 1) = false) (H1 : Hid ((sub (max (sub q1 (hf k' x' x')) (min (add q1 (hf k' x' x')) p1)) p1) = n1)) (H2 : Hid ((sub (max (sub q2 (hf k' x' y')) (min (add q2 (hf k' x' y')) p2)) p2) = n2)) (H3 : Hid ((sub (max (sub q3 (hf k' x' z')) (min (add q3 (hf k' x' z')) p3)) p3) = n3)) (hz : ¬ n1 = 0) (hd : sub x (long n1 n2 n3) ≤ 0) (w : World) : Calls Try.prog 77 #[.agg #[.int .i64 k, .int .i64 x, .int .i64 y, .int .i64 z], .agg #[.int .i64 p1, .int .i64 p2, .int .i64 p3], .agg #[.int .i64 k', .int .i64 x', .int .i64 y', .int .i64 z'], .agg #[.int .i64 q1, .int .i64 q2, .int .i64 q3]] w fun e w' => e = .returned (.tuple #[.agg #[.int .i64 0, .int .i64 0, .int .i64 0], .int .i64 0, .bool false]) ∧ Below w.heap.size w w' := by
  have hmc := more_cell
  have hmf := more_frozen
  have hml := more_lt
  go_enter Try.func77, Try.ntmps77
  go_wp2_with fail
  refine (raround_c _ _ _ _ _ _ _ _).mono ?_
  rintro e w1 ⟨rfl, hb1⟩
  have B1_0 : Blk w1 (w.heap.size) _ := Blk.below (by repeat (with_reducible (first | assumption | (apply Blk.at; simp; done) | apply Blk.alloc | apply Blk.drew | apply Blk.drewN | apply Blk.more | apply Blk.put | (apply Blk.far; focus (first | assumption | (apply Ne.symm; assumption) | (simp; done) | (simp <;> omega)))))) hb1
  obtain ⟨z1_0, c1_0, f1_0⟩ := id B1_0
  have B1_1 : Blk w1 (w.heap.size + 1) _ := Blk.below (by repeat (with_reducible (first | assumption | (apply Blk.at; simp; done) | apply Blk.alloc | apply Blk.drew | apply Blk.drewN | apply Blk.more | apply Blk.put | (apply Blk.far; focus (first | assumption | (apply Ne.symm; assumption) | (simp; done) | (simp <;> omega)))))) hb1
  obtain ⟨z1_1, c1_1, f1_1⟩ := id B1_1
  have B1_2 : Blk w1 (w.heap.size + 1 + 1) _ := Blk.below (by repeat (with_reducible (first | assumption | (apply Blk.at; simp; done) | apply Blk.alloc | apply Blk.drew | apply Blk.drewN | apply Blk.more | apply Blk.put | (apply Blk.far; focus (first | assumption | (apply Ne.symm; assumption) | (simp; done) | (simp <;> omega)))))) hb1
  obtain ⟨z1_2, c1_2, f1_2⟩ := id B1_2
  have B1_3 : Blk w1 (w.heap.size + 1 + 1 + 1) _ := Blk.below (by repeat (with_reducible (first | assumption | (apply Blk.at; simp; done) | apply Blk.alloc | apply Blk.drew | apply Blk.drewN | apply Blk.more | apply Blk.put | (apply Blk.far; focus (first | assumption | (apply Ne.symm; assumption) | (simp; done) | (simp <;> omega)))))) hb1
  obtain ⟨z1_3, c1_3, f1_3⟩ := id B1_3
  have B1_4 : Blk w1 (w.heap.size + 1 + 1 + 1 + 1) _ := Blk.below (by repeat (with_reducible (first | assumption | (apply Blk.at; simp; done) | apply Blk.alloc | apply Blk.drew | apply Blk.drewN | apply Blk.more | apply Blk.put | (apply Blk.far; focus (first | assumption | (apply Ne.symm; assumption) | (simp; done) | (simp <;> omega)))))) hb1
  obtain ⟨z1_4, c1_4, f1_4⟩ := id B1_4
  have B1_5 : Blk w1 (w.heap.size + 1 + 1 + 1 + 1 + 1) _ := Blk.below (by repeat (with_reducible (first | assumption | (apply Blk.at; simp; done) | apply Blk.alloc | apply Blk.drew | apply Blk.drewN | apply Blk.more | apply Blk.put | (apply Blk.far; focus (first | assumption | (apply Ne.symm; assumption) | (simp; done) | (simp <;> omega)))))) hb1
  obtain ⟨z1_5, c1_5, f1_5⟩ := id B1_5
  go_wp2_with fail
  refine wp_fresh ?_
  rintro w2 hb2
  have B2_0 : Blk w2 (w.heap.size) _ := Blk.below (by repeat (with_reducible (first | assumption | (apply Blk.at; simp; done) | apply Blk.alloc | apply Blk.drew | apply Blk.drewN | apply Blk.more | apply Blk.put | (apply Blk.far; focus (first | assumption | (apply Ne.symm; assumption) | (simp; done) | (simp <;> omega)))))) hb2
  obtain ⟨z2_0, c2_0, f2_0⟩ := id B2_0
  have B2_1 : Blk w2 (w.heap.size + 1) _ := Blk.below (by repeat (with_reducible (first | assumption | (apply Blk.at; simp; done) | apply Blk.alloc | apply Blk.drew | apply Blk.drewN | apply Blk.more | apply Blk.put | (apply Blk.far; focus (first | assumption | (apply Ne.symm; assumption) | (simp; done) | (simp <;> omega)))))) hb2
  obtain ⟨z2_1, c2_1, f2_1⟩ := id B2_1
  have B2_2 : Blk w2 (w.heap.size + 1 + 1) _ := Blk.below (by repeat (with_reducible (first | assumption | (apply Blk.at; simp; done) | apply Blk.alloc | apply Blk.drew | apply Blk.drewN | apply Blk.more | apply Blk.put | (apply Blk.far; focus (first | assumption | (apply Ne.symm; assumption) | (simp; done) | (simp <;> omega)))))) hb2
  obtain ⟨z2_2, c2_2, f2_2⟩ := id B2_2
  have B2_3 : Blk w2 (w.heap.size + 1 + 1 + 1) _ := Blk.below (by repeat (with_reducible (first | assumption | (apply Blk.at; simp; done) | apply Blk.alloc | apply Blk.drew | apply Blk.drewN | apply Blk.more | apply Blk.put | (apply Blk.far; focus (first | assumption | (apply Ne.symm; assumption) | (simp; done) | (simp <;> omega)))))) hb2
  obtain ⟨z2_3, c2_3, f2_3⟩ := id B2_3
  have B2_4 : Blk w2 (w.heap.size + 1 + 1 + 1 + 1) _ := Blk.below (by repeat (with_reducible (first | assumption | (apply Blk.at; simp; done) | apply Blk.alloc | apply Blk.drew | apply Blk.drewN | apply Blk.more | apply Blk.put | (apply Blk.far; focus (first | assumption | (apply Ne.symm; assumption) | (simp; done) | (simp <;> omega)))))) hb2
  obtain ⟨z2_4, c2_4, f2_4⟩ := id B2_4
  have B2_5 : Blk w2 (w.heap.size + 1 + 1 + 1 + 1 + 1) _ := Blk.below (by repeat (with_reducible (first | assumption | (apply Blk.at; simp; done) | apply Blk.alloc | apply Blk.drew | apply Blk.drewN | apply Blk.more | apply Blk.put | (apply Blk.far; focus (first | assumption | (apply Ne.symm; assumption) | (simp; done) | (simp <;> omega)))))) hb2
  obtain ⟨z2_5, c2_5, f2_5⟩ := id B2_5
  have B2_6 : Blk w2 (w1.heap.size) _ := Blk.below (by repeat (with_reducible (first | assumption | (apply Blk.at; simp; done) | apply Blk.alloc | apply Blk.drew | apply Blk.drewN | apply Blk.more | apply Blk.put | (apply Blk.far; focus (first | assumption | (apply Ne.symm; assumption) | (simp; done) | (simp <;> omega)))))) hb2
  try simp only [List.setIfInBounds_toArray, List.set_cons_zero, List.set_cons_succ] at B2_6
  obtain ⟨z2_6, c2_6, f2_6⟩ := id B2_6
  refine region_grow (A := ?A3) 5 [15] (fun _ => #[.int .i64 0, .int .i64 0, .int .i64 0]) (by kernel_rfl) (by kernel_rfl) ?hrun3 ?hq3 ?htail3
  case hq3 =>
    intro w0 hb0
    simp only [List.take_succ_cons, List.take_zero]
    have B0_0 : Blk w0 _ _ := B2_0.below hb0
    obtain ⟨z0_0, c0_0, f0_0⟩ := id B0_0
    have B0_1 : Blk w0 _ _ := B2_1.below hb0
    obtain ⟨z0_1, c0_1, f0_1⟩ := id B0_1
    have B0_2 : Blk w0 _ _ := B2_2.below hb0
    obtain ⟨z0_2, c0_2, f0_2⟩ := id B0_2
    have B0_3 : Blk w0 _ _ := B2_3.below hb0
    obtain ⟨z0_3, c0_3, f0_3⟩ := id B0_3
    have B0_4 : Blk w0 _ _ := B2_4.below hb0
    obtain ⟨z0_4, c0_4, f0_4⟩ := id B0_4
    have B0_5 : Blk w0 _ _ := B2_5.below hb0
    obtain ⟨z0_5, c0_5, f0_5⟩ := id B0_5
    have B0_6 : Blk w0 _ _ := B2_6.below hb0
    obtain ⟨z0_6, c0_6, f0_6⟩ := id B0_6
    repeat (go_big_quiet_step ((first | (go_at_call 28; exact calls_after (rnear_c _ _ _ _ _ _ _ _ _ _)) | (go_at_call 61; exact calls_after (rminus_c _ _ _ _ _ _ _)))))
    refine wpQuiet_nil ?_
    rfl
  case hrun3 =>
    intro j hj
    match j, hj with
    | 0, _ => exact ⟨_, _, rfl, fun a w => by simp [go_sem]; rfl⟩
  case htail3 =>
    intro gs w3 hb3 hblk hne
    obtain ⟨G3_0, hg3_0⟩ := hblk 0 (by decide)
    simp only [List.drop_succ_cons, List.drop_zero, List.length_cons, List.length_nil, laySlots]
    clear hblk hne
    generalize gs 0 = g3_0 at *
    have B3_0 : Blk w3 _ _ := B2_0.below hb3
    obtain ⟨z3_0, c3_0, f3_0⟩ := id B3_0
    have B3_1 : Blk w3 _ _ := B2_1.below hb3
    obtain ⟨z3_1, c3_1, f3_1⟩ := id B3_1
    have B3_2 : Blk w3 _ _ := B2_2.below hb3
    obtain ⟨z3_2, c3_2, f3_2⟩ := id B3_2
    have B3_3 : Blk w3 _ _ := B2_3.below hb3
    obtain ⟨z3_3, c3_3, f3_3⟩ := id B3_3
    have B3_4 : Blk w3 _ _ := B2_4.below hb3
    obtain ⟨z3_4, c3_4, f3_4⟩ := id B3_4
    have B3_5 : Blk w3 _ _ := B2_5.below hb3
    obtain ⟨z3_5, c3_5, f3_5⟩ := id B3_5
    have B3_6 : Blk w3 _ _ := B2_6.below hb3
    obtain ⟨z3_6, c3_6, f3_6⟩ := id B3_6
    obtain ⟨zg3_0, cg3_0, fg3_0⟩ := id G3_0
    have ne3_0_0 : g3_0 ≠ w.heap.size := by omega
    have ne3_0_1 : g3_0 ≠ w.heap.size + 1 := by omega
    have ne3_0_2 : g3_0 ≠ w.heap.size + 1 + 1 := by omega
    have ne3_0_3 : g3_0 ≠ w.heap.size + 1 + 1 + 1 := by omega
    have ne3_0_4 : g3_0 ≠ w.heap.size + 1 + 1 + 1 + 1 := by omega
    have ne3_0_5 : g3_0 ≠ w.heap.size + 1 + 1 + 1 + 1 + 1 := by omega
    have ne3_0_6 : g3_0 ≠ w1.heap.size := by omega
    simp only [H1.out, H2.out, H3.out]
    go_wp2_with fail
    refine wp_fresh ?_
    rintro w4 hb4
    have B4_0 : Blk w4 (w.heap.size) _ := Blk.below (by repeat (with_reducible (first | assumption | (apply Blk.at; simp; done) | apply Blk.alloc | apply Blk.drew | apply Blk.drewN | apply Blk.more | apply Blk.put | (apply Blk.far; focus (first | assumption | (apply Ne.symm; assumption) | (simp; done) | (simp <;> omega)))))) hb4
    obtain ⟨z4_0, c4_0, f4_0⟩ := id B4_0
    have B4_1 : Blk w4 (w.heap.size + 1) _ := Blk.below (by repeat (with_reducible (first | assumption | (apply Blk.at; simp; done) | apply Blk.alloc | apply Blk.drew | apply Blk.drewN | apply Blk.more | apply Blk.put | (apply Blk.far; focus (first | assumption | (apply Ne.symm; assumption) | (simp; done) | (simp <;> omega)))))) hb4
    obtain ⟨z4_1, c4_1, f4_1⟩ := id B4_1
    have B4_2 : Blk w4 (w.heap.size + 1 + 1) _ := Blk.below (by repeat (with_reducible (first | assumption | (apply Blk.at; simp; done) | apply Blk.alloc | apply Blk.drew | apply Blk.drewN | apply Blk.more | apply Blk.put | (apply Blk.far; focus (first | assumption | (apply Ne.symm; assumption) | (simp; done) | (simp <;> omega)))))) hb4
    obtain ⟨z4_2, c4_2, f4_2⟩ := id B4_2
    have B4_3 : Blk w4 (w.heap.size + 1 + 1 + 1) _ := Blk.below (by repeat (with_reducible (first | assumption | (apply Blk.at; simp; done) | apply Blk.alloc | apply Blk.drew | apply Blk.drewN | apply Blk.more | apply Blk.put | (apply Blk.far; focus (first | assumption | (apply Ne.symm; assumption) | (simp; done) | (simp <;> omega)))))) hb4
    obtain ⟨z4_3, c4_3, f4_3⟩ := id B4_3
    have B4_4 : Blk w4 (w.heap.size + 1 + 1 + 1 + 1) _ := Blk.below (by repeat (with_reducible (first | assumption | (apply Blk.at; simp; done) | apply Blk.alloc | apply Blk.drew | apply Blk.drewN | apply Blk.more | apply Blk.put | (apply Blk.far; focus (first | assumption | (apply Ne.symm; assumption) | (simp; done) | (simp <;> omega)))))) hb4
    obtain ⟨z4_4, c4_4, f4_4⟩ := id B4_4
    have B4_5 : Blk w4 (w.heap.size + 1 + 1 + 1 + 1 + 1) _ := Blk.below (by repeat (with_reducible (first | assumption | (apply Blk.at; simp; done) | apply Blk.alloc | apply Blk.drew | apply Blk.drewN | apply Blk.more | apply Blk.put | (apply Blk.far; focus (first | assumption | (apply Ne.symm; assumption) | (simp; done) | (simp <;> omega)))))) hb4
    obtain ⟨z4_5, c4_5, f4_5⟩ := id B4_5
    have B4_6 : Blk w4 (w1.heap.size) _ := Blk.below (by repeat (with_reducible (first | assumption | (apply Blk.at; simp; done) | apply Blk.alloc | apply Blk.drew | apply Blk.drewN | apply Blk.more | apply Blk.put | (apply Blk.far; focus (first | assumption | (apply Ne.symm; assumption) | (simp; done) | (simp <;> omega)))))) hb4
    obtain ⟨z4_6, c4_6, f4_6⟩ := id B4_6
    have B4_7 : Blk w4 (g3_0) _ := Blk.below (by repeat (with_reducible (first | assumption | (apply Blk.at; simp; done) | apply Blk.alloc | apply Blk.drew | apply Blk.drewN | apply Blk.more | apply Blk.put | (apply Blk.far; focus (first | assumption | (apply Ne.symm; assumption) | (simp; done) | (simp <;> omega)))))) hb4
    try simp only [List.setIfInBounds_toArray, List.set_cons_zero, List.set_cons_succ] at B4_7
    obtain ⟨z4_7, c4_7, f4_7⟩ := id B4_7
    refine region_quiet_but 8 (by kernel_rfl) (by kernel_rfl) ?_
    simp only [List.take_succ_cons, List.take_zero, List.drop_succ_cons, List.drop_zero]
    repeat (go_big_quiet_step (first | (go_at_call 69; exact calls_after (runit_c _ _ _ _)) | (go_at_call 67; exact calls_after (rlong_c _ _ _ _)) | (go_at_call 53; exact calls_after_same (rsub_c _ _ _))))
    refine wpQuiet_nil ?_
    rintro w5 hw5
    have hb5 := after_below hw5
    clear hw5
    have B5_0 : Blk w5 (w.heap.size) _ := Blk.below (by repeat (with_reducible (first | assumption | (apply Blk.at; simp; done) | apply Blk.alloc | apply Blk.drew | apply Blk.drewN | apply Blk.more | apply Blk.put | (apply Blk.far; focus (first | assumption | (apply Ne.symm; assumption) | (simp; done) | (simp <;> omega)))))) hb5
    obtain ⟨z5_0, c5_0, f5_0⟩ := id B5_0
    have B5_1 : Blk w5 (w.heap.size + 1) _ := Blk.below (by repeat (with_reducible (first | assumption | (apply Blk.at; simp; done) | apply Blk.alloc | apply Blk.drew | apply Blk.drewN | apply Blk.more | apply Blk.put | (apply Blk.far; focus (first | assumption | (apply Ne.symm; assumption) | (simp; done) | (simp <;> omega)))))) hb5
    obtain ⟨z5_1, c5_1, f5_1⟩ := id B5_1
    have B5_2 : Blk w5 (w.heap.size + 1 + 1) _ := Blk.below (by repeat (with_reducible (first | assumption | (apply Blk.at; simp; done) | apply Blk.alloc | apply Blk.drew | apply Blk.drewN | apply Blk.more | apply Blk.put | (apply Blk.far; focus (first | assumption | (apply Ne.symm; assumption) | (simp; done) | (simp <;> omega)))))) hb5
    obtain ⟨z5_2, c5_2, f5_2⟩ := id B5_2
    have B5_3 : Blk w5 (w.heap.size + 1 + 1 + 1) _ := Blk.below (by repeat (with_reducible (first | assumption | (apply Blk.at; simp; done) | apply Blk.alloc | apply Blk.drew | apply Blk.drewN | apply Blk.more | apply Blk.put | (apply Blk.far; focus (first | assumption | (apply Ne.symm; assumption) | (simp; done) | (simp <;> omega)))))) hb5
    obtain ⟨z5_3, c5_3, f5_3⟩ := id B5_3
    have B5_4 : Blk w5 (w.heap.size + 1 + 1 + 1 + 1) _ := Blk.below (by repeat (with_reducible (first | assumption | (apply Blk.at; simp; done) | apply Blk.alloc | apply Blk.drew | apply Blk.drewN | apply Blk.more | apply Blk.put | (apply Blk.far; focus (first | assumption | (apply Ne.symm; assumption) | (simp; done) | (simp <;> omega)))))) hb5
    obtain ⟨z5_4, c5_4, f5_4⟩ := id B5_4
    have B5_5 : Blk w5 (w.heap.size + 1 + 1 + 1 + 1 + 1) _ := Blk.below (by repeat (with_reducible (first | assumption | (apply Blk.at; simp; done) | apply Blk.alloc | apply Blk.drew | apply Blk.drewN | apply Blk.more | apply Blk.put | (apply Blk.far; focus (first | assumption | (apply Ne.symm; assumption) | (simp; done) | (simp <;> omega)))))) hb5
    obtain ⟨z5_5, c5_5, f5_5⟩ := id B5_5
    have B5_6 : Blk w5 (w1.heap.size) _ := Blk.below (by repeat (with_reducible (first | assumption | (apply Blk.at; simp; done) | apply Blk.alloc | apply Blk.drew | apply Blk.drewN | apply Blk.more | apply Blk.put | (apply Blk.far; focus (first | assumption | (apply Ne.symm; assumption) | (simp; done) | (simp <;> omega)))))) hb5
    obtain ⟨z5_6, c5_6, f5_6⟩ := id B5_6
    have B5_7 : Blk w5 (g3_0) _ := Blk.below (by repeat (with_reducible (first | assumption | (apply Blk.at; simp; done) | apply Blk.alloc | apply Blk.drew | apply Blk.drewN | apply Blk.more | apply Blk.put | (apply Blk.far; focus (first | assumption | (apply Ne.symm; assumption) | (simp; done) | (simp <;> omega)))))) hb5
    obtain ⟨z5_7, c5_7, f5_7⟩ := id B5_7
    go_wp2
    exact bodyPost_ret (v := .tuple #[.agg #[.int .i64 0, .int .i64 0, .int .i64 0], .int .i64 0, .bool false]) (by simp [results, Try.results77, go_sem, *]) rfl ⟨rfl, (by repeat (with_reducible (first | exact Below.refl _ _ | assumption | apply ext_drew | apply ext_drewN | apply ext_alloc | apply ext_more | (refine ext_setCell ?_ (by simp <;> omega) _) | (refine ext_below ?_ (by assumption)))))⟩

set_option maxHeartbeats 4000000 in
theorem rt_ba01 (k x y z p1 p2 p3 k' x' y' z' q1 q2 q3 n1 n2 n3 : Int) (e1 : (k == 1) = true) (e2 : (k' == 1) = false) (H1 : Hid ((sub (max (sub q1 (hf k' x' x')) (min (add q1 (hf k' x' x')) p1)) p1) = n1)) (H2 : Hid ((sub (max (sub q2 (hf k' x' y')) (min (add q2 (hf k' x' y')) p2)) p2) = n2)) (H3 : Hid ((sub (max (sub q3 (hf k' x' z')) (min (add q3 (hf k' x' z')) p3)) p3) = n3)) (hz : ¬ n1 = 0) (hd : 0 < sub x (long n1 n2 n3)) (w : World) : Calls Try.prog 77 #[.agg #[.int .i64 k, .int .i64 x, .int .i64 y, .int .i64 z], .agg #[.int .i64 p1, .int .i64 p2, .int .i64 p3], .agg #[.int .i64 k', .int .i64 x', .int .i64 y', .int .i64 z'], .agg #[.int .i64 q1, .int .i64 q2, .int .i64 q3]] w fun e w' => e = .returned (.tuple #[.agg #[.int .i64 (unit1 n1 n2 n3), .int .i64 (unit2 n1 n2 n3), .int .i64 (unit3 n1 n2 n3)], .int .i64 (sub x (long n1 n2 n3)), .bool true]) ∧ Below w.heap.size w w' := by
  have hmc := more_cell
  have hmf := more_frozen
  have hml := more_lt
  go_enter Try.func77, Try.ntmps77
  go_wp2_with fail
  refine (raround_c _ _ _ _ _ _ _ _).mono ?_
  rintro e w1 ⟨rfl, hb1⟩
  have B1_0 : Blk w1 (w.heap.size) _ := Blk.below (by repeat (with_reducible (first | assumption | (apply Blk.at; simp; done) | apply Blk.alloc | apply Blk.drew | apply Blk.drewN | apply Blk.more | apply Blk.put | (apply Blk.far; focus (first | assumption | (apply Ne.symm; assumption) | (simp; done) | (simp <;> omega)))))) hb1
  obtain ⟨z1_0, c1_0, f1_0⟩ := id B1_0
  have B1_1 : Blk w1 (w.heap.size + 1) _ := Blk.below (by repeat (with_reducible (first | assumption | (apply Blk.at; simp; done) | apply Blk.alloc | apply Blk.drew | apply Blk.drewN | apply Blk.more | apply Blk.put | (apply Blk.far; focus (first | assumption | (apply Ne.symm; assumption) | (simp; done) | (simp <;> omega)))))) hb1
  obtain ⟨z1_1, c1_1, f1_1⟩ := id B1_1
  have B1_2 : Blk w1 (w.heap.size + 1 + 1) _ := Blk.below (by repeat (with_reducible (first | assumption | (apply Blk.at; simp; done) | apply Blk.alloc | apply Blk.drew | apply Blk.drewN | apply Blk.more | apply Blk.put | (apply Blk.far; focus (first | assumption | (apply Ne.symm; assumption) | (simp; done) | (simp <;> omega)))))) hb1
  obtain ⟨z1_2, c1_2, f1_2⟩ := id B1_2
  have B1_3 : Blk w1 (w.heap.size + 1 + 1 + 1) _ := Blk.below (by repeat (with_reducible (first | assumption | (apply Blk.at; simp; done) | apply Blk.alloc | apply Blk.drew | apply Blk.drewN | apply Blk.more | apply Blk.put | (apply Blk.far; focus (first | assumption | (apply Ne.symm; assumption) | (simp; done) | (simp <;> omega)))))) hb1
  obtain ⟨z1_3, c1_3, f1_3⟩ := id B1_3
  have B1_4 : Blk w1 (w.heap.size + 1 + 1 + 1 + 1) _ := Blk.below (by repeat (with_reducible (first | assumption | (apply Blk.at; simp; done) | apply Blk.alloc | apply Blk.drew | apply Blk.drewN | apply Blk.more | apply Blk.put | (apply Blk.far; focus (first | assumption | (apply Ne.symm; assumption) | (simp; done) | (simp <;> omega)))))) hb1
  obtain ⟨z1_4, c1_4, f1_4⟩ := id B1_4
  have B1_5 : Blk w1 (w.heap.size + 1 + 1 + 1 + 1 + 1) _ := Blk.below (by repeat (with_reducible (first | assumption | (apply Blk.at; simp; done) | apply Blk.alloc | apply Blk.drew | apply Blk.drewN | apply Blk.more | apply Blk.put | (apply Blk.far; focus (first | assumption | (apply Ne.symm; assumption) | (simp; done) | (simp <;> omega)))))) hb1
  obtain ⟨z1_5, c1_5, f1_5⟩ := id B1_5
  go_wp2_with fail
  refine wp_fresh ?_
  rintro w2 hb2
  have B2_0 : Blk w2 (w.heap.size) _ := Blk.below (by repeat (with_reducible (first | assumption | (apply Blk.at; simp; done) | apply Blk.alloc | apply Blk.drew | apply Blk.drewN | apply Blk.more | apply Blk.put | (apply Blk.far; focus (first | assumption | (apply Ne.symm; assumption) | (simp; done) | (simp <;> omega)))))) hb2
  obtain ⟨z2_0, c2_0, f2_0⟩ := id B2_0
  have B2_1 : Blk w2 (w.heap.size + 1) _ := Blk.below (by repeat (with_reducible (first | assumption | (apply Blk.at; simp; done) | apply Blk.alloc | apply Blk.drew | apply Blk.drewN | apply Blk.more | apply Blk.put | (apply Blk.far; focus (first | assumption | (apply Ne.symm; assumption) | (simp; done) | (simp <;> omega)))))) hb2
  obtain ⟨z2_1, c2_1, f2_1⟩ := id B2_1
  have B2_2 : Blk w2 (w.heap.size + 1 + 1) _ := Blk.below (by repeat (with_reducible (first | assumption | (apply Blk.at; simp; done) | apply Blk.alloc | apply Blk.drew | apply Blk.drewN | apply Blk.more | apply Blk.put | (apply Blk.far; focus (first | assumption | (apply Ne.symm; assumption) | (simp; done) | (simp <;> omega)))))) hb2
  obtain ⟨z2_2, c2_2, f2_2⟩ := id B2_2
  have B2_3 : Blk w2 (w.heap.size + 1 + 1 + 1) _ := Blk.below (by repeat (with_reducible (first | assumption | (apply Blk.at; simp; done) | apply Blk.alloc | apply Blk.drew | apply Blk.drewN | apply Blk.more | apply Blk.put | (apply Blk.far; focus (first | assumption | (apply Ne.symm; assumption) | (simp; done) | (simp <;> omega)))))) hb2
  obtain ⟨z2_3, c2_3, f2_3⟩ := id B2_3
  have B2_4 : Blk w2 (w.heap.size + 1 + 1 + 1 + 1) _ := Blk.below (by repeat (with_reducible (first | assumption | (apply Blk.at; simp; done) | apply Blk.alloc | apply Blk.drew | apply Blk.drewN | apply Blk.more | apply Blk.put | (apply Blk.far; focus (first | assumption | (apply Ne.symm; assumption) | (simp; done) | (simp <;> omega)))))) hb2
  obtain ⟨z2_4, c2_4, f2_4⟩ := id B2_4
  have B2_5 : Blk w2 (w.heap.size + 1 + 1 + 1 + 1 + 1) _ := Blk.below (by repeat (with_reducible (first | assumption | (apply Blk.at; simp; done) | apply Blk.alloc | apply Blk.drew | apply Blk.drewN | apply Blk.more | apply Blk.put | (apply Blk.far; focus (first | assumption | (apply Ne.symm; assumption) | (simp; done) | (simp <;> omega)))))) hb2
  obtain ⟨z2_5, c2_5, f2_5⟩ := id B2_5
  have B2_6 : Blk w2 (w1.heap.size) _ := Blk.below (by repeat (with_reducible (first | assumption | (apply Blk.at; simp; done) | apply Blk.alloc | apply Blk.drew | apply Blk.drewN | apply Blk.more | apply Blk.put | (apply Blk.far; focus (first | assumption | (apply Ne.symm; assumption) | (simp; done) | (simp <;> omega)))))) hb2
  try simp only [List.setIfInBounds_toArray, List.set_cons_zero, List.set_cons_succ] at B2_6
  obtain ⟨z2_6, c2_6, f2_6⟩ := id B2_6
  refine region_grow (A := ?A3) 5 [15] (fun _ => #[.int .i64 0, .int .i64 0, .int .i64 0]) (by kernel_rfl) (by kernel_rfl) ?hrun3 ?hq3 ?htail3
  case hq3 =>
    intro w0 hb0
    simp only [List.take_succ_cons, List.take_zero]
    have B0_0 : Blk w0 _ _ := B2_0.below hb0
    obtain ⟨z0_0, c0_0, f0_0⟩ := id B0_0
    have B0_1 : Blk w0 _ _ := B2_1.below hb0
    obtain ⟨z0_1, c0_1, f0_1⟩ := id B0_1
    have B0_2 : Blk w0 _ _ := B2_2.below hb0
    obtain ⟨z0_2, c0_2, f0_2⟩ := id B0_2
    have B0_3 : Blk w0 _ _ := B2_3.below hb0
    obtain ⟨z0_3, c0_3, f0_3⟩ := id B0_3
    have B0_4 : Blk w0 _ _ := B2_4.below hb0
    obtain ⟨z0_4, c0_4, f0_4⟩ := id B0_4
    have B0_5 : Blk w0 _ _ := B2_5.below hb0
    obtain ⟨z0_5, c0_5, f0_5⟩ := id B0_5
    have B0_6 : Blk w0 _ _ := B2_6.below hb0
    obtain ⟨z0_6, c0_6, f0_6⟩ := id B0_6
    repeat (go_big_quiet_step ((first | (go_at_call 28; exact calls_after (rnear_c _ _ _ _ _ _ _ _ _ _)) | (go_at_call 61; exact calls_after (rminus_c _ _ _ _ _ _ _)))))
    refine wpQuiet_nil ?_
    rfl
  case hrun3 =>
    intro j hj
    match j, hj with
    | 0, _ => exact ⟨_, _, rfl, fun a w => by simp [go_sem]; rfl⟩
  case htail3 =>
    intro gs w3 hb3 hblk hne
    obtain ⟨G3_0, hg3_0⟩ := hblk 0 (by decide)
    simp only [List.drop_succ_cons, List.drop_zero, List.length_cons, List.length_nil, laySlots]
    clear hblk hne
    generalize gs 0 = g3_0 at *
    have B3_0 : Blk w3 _ _ := B2_0.below hb3
    obtain ⟨z3_0, c3_0, f3_0⟩ := id B3_0
    have B3_1 : Blk w3 _ _ := B2_1.below hb3
    obtain ⟨z3_1, c3_1, f3_1⟩ := id B3_1
    have B3_2 : Blk w3 _ _ := B2_2.below hb3
    obtain ⟨z3_2, c3_2, f3_2⟩ := id B3_2
    have B3_3 : Blk w3 _ _ := B2_3.below hb3
    obtain ⟨z3_3, c3_3, f3_3⟩ := id B3_3
    have B3_4 : Blk w3 _ _ := B2_4.below hb3
    obtain ⟨z3_4, c3_4, f3_4⟩ := id B3_4
    have B3_5 : Blk w3 _ _ := B2_5.below hb3
    obtain ⟨z3_5, c3_5, f3_5⟩ := id B3_5
    have B3_6 : Blk w3 _ _ := B2_6.below hb3
    obtain ⟨z3_6, c3_6, f3_6⟩ := id B3_6
    obtain ⟨zg3_0, cg3_0, fg3_0⟩ := id G3_0
    have ne3_0_0 : g3_0 ≠ w.heap.size := by omega
    have ne3_0_1 : g3_0 ≠ w.heap.size + 1 := by omega
    have ne3_0_2 : g3_0 ≠ w.heap.size + 1 + 1 := by omega
    have ne3_0_3 : g3_0 ≠ w.heap.size + 1 + 1 + 1 := by omega
    have ne3_0_4 : g3_0 ≠ w.heap.size + 1 + 1 + 1 + 1 := by omega
    have ne3_0_5 : g3_0 ≠ w.heap.size + 1 + 1 + 1 + 1 + 1 := by omega
    have ne3_0_6 : g3_0 ≠ w1.heap.size := by omega
    simp only [H1.out, H2.out, H3.out]
    go_wp2_with fail
    refine wp_fresh ?_
    rintro w4 hb4
    have B4_0 : Blk w4 (w.heap.size) _ := Blk.below (by repeat (with_reducible (first | assumption | (apply Blk.at; simp; done) | apply Blk.alloc | apply Blk.drew | apply Blk.drewN | apply Blk.more | apply Blk.put | (apply Blk.far; focus (first | assumption | (apply Ne.symm; assumption) | (simp; done) | (simp <;> omega)))))) hb4
    obtain ⟨z4_0, c4_0, f4_0⟩ := id B4_0
    have B4_1 : Blk w4 (w.heap.size + 1) _ := Blk.below (by repeat (with_reducible (first | assumption | (apply Blk.at; simp; done) | apply Blk.alloc | apply Blk.drew | apply Blk.drewN | apply Blk.more | apply Blk.put | (apply Blk.far; focus (first | assumption | (apply Ne.symm; assumption) | (simp; done) | (simp <;> omega)))))) hb4
    obtain ⟨z4_1, c4_1, f4_1⟩ := id B4_1
    have B4_2 : Blk w4 (w.heap.size + 1 + 1) _ := Blk.below (by repeat (with_reducible (first | assumption | (apply Blk.at; simp; done) | apply Blk.alloc | apply Blk.drew | apply Blk.drewN | apply Blk.more | apply Blk.put | (apply Blk.far; focus (first | assumption | (apply Ne.symm; assumption) | (simp; done) | (simp <;> omega)))))) hb4
    obtain ⟨z4_2, c4_2, f4_2⟩ := id B4_2
    have B4_3 : Blk w4 (w.heap.size + 1 + 1 + 1) _ := Blk.below (by repeat (with_reducible (first | assumption | (apply Blk.at; simp; done) | apply Blk.alloc | apply Blk.drew | apply Blk.drewN | apply Blk.more | apply Blk.put | (apply Blk.far; focus (first | assumption | (apply Ne.symm; assumption) | (simp; done) | (simp <;> omega)))))) hb4
    obtain ⟨z4_3, c4_3, f4_3⟩ := id B4_3
    have B4_4 : Blk w4 (w.heap.size + 1 + 1 + 1 + 1) _ := Blk.below (by repeat (with_reducible (first | assumption | (apply Blk.at; simp; done) | apply Blk.alloc | apply Blk.drew | apply Blk.drewN | apply Blk.more | apply Blk.put | (apply Blk.far; focus (first | assumption | (apply Ne.symm; assumption) | (simp; done) | (simp <;> omega)))))) hb4
    obtain ⟨z4_4, c4_4, f4_4⟩ := id B4_4
    have B4_5 : Blk w4 (w.heap.size + 1 + 1 + 1 + 1 + 1) _ := Blk.below (by repeat (with_reducible (first | assumption | (apply Blk.at; simp; done) | apply Blk.alloc | apply Blk.drew | apply Blk.drewN | apply Blk.more | apply Blk.put | (apply Blk.far; focus (first | assumption | (apply Ne.symm; assumption) | (simp; done) | (simp <;> omega)))))) hb4
    obtain ⟨z4_5, c4_5, f4_5⟩ := id B4_5
    have B4_6 : Blk w4 (w1.heap.size) _ := Blk.below (by repeat (with_reducible (first | assumption | (apply Blk.at; simp; done) | apply Blk.alloc | apply Blk.drew | apply Blk.drewN | apply Blk.more | apply Blk.put | (apply Blk.far; focus (first | assumption | (apply Ne.symm; assumption) | (simp; done) | (simp <;> omega)))))) hb4
    obtain ⟨z4_6, c4_6, f4_6⟩ := id B4_6
    have B4_7 : Blk w4 (g3_0) _ := Blk.below (by repeat (with_reducible (first | assumption | (apply Blk.at; simp; done) | apply Blk.alloc | apply Blk.drew | apply Blk.drewN | apply Blk.more | apply Blk.put | (apply Blk.far; focus (first | assumption | (apply Ne.symm; assumption) | (simp; done) | (simp <;> omega)))))) hb4
    try simp only [List.setIfInBounds_toArray, List.set_cons_zero, List.set_cons_succ] at B4_7
    obtain ⟨z4_7, c4_7, f4_7⟩ := id B4_7
    refine region_quiet_but 8 (by kernel_rfl) (by kernel_rfl) ?_
    simp only [List.take_succ_cons, List.take_zero, List.drop_succ_cons, List.drop_zero]
    repeat (go_big_quiet_step (first | (go_at_call 69; exact calls_after (runit_c _ _ _ _)) | (go_at_call 67; exact calls_after (rlong_c _ _ _ _)) | (go_at_call 53; exact calls_after_same (rsub_c _ _ _))))
    refine wpQuiet_nil ?_
    rintro w5 hw5
    have hb5 := after_below hw5
    clear hw5
    have B5_0 : Blk w5 (w.heap.size) _ := Blk.below (by repeat (with_reducible (first | assumption | (apply Blk.at; simp; done) | apply Blk.alloc | apply Blk.drew | apply Blk.drewN | apply Blk.more | apply Blk.put | (apply Blk.far; focus (first | assumption | (apply Ne.symm; assumption) | (simp; done) | (simp <;> omega)))))) hb5
    obtain ⟨z5_0, c5_0, f5_0⟩ := id B5_0
    have B5_1 : Blk w5 (w.heap.size + 1) _ := Blk.below (by repeat (with_reducible (first | assumption | (apply Blk.at; simp; done) | apply Blk.alloc | apply Blk.drew | apply Blk.drewN | apply Blk.more | apply Blk.put | (apply Blk.far; focus (first | assumption | (apply Ne.symm; assumption) | (simp; done) | (simp <;> omega)))))) hb5
    obtain ⟨z5_1, c5_1, f5_1⟩ := id B5_1
    have B5_2 : Blk w5 (w.heap.size + 1 + 1) _ := Blk.below (by repeat (with_reducible (first | assumption | (apply Blk.at; simp; done) | apply Blk.alloc | apply Blk.drew | apply Blk.drewN | apply Blk.more | apply Blk.put | (apply Blk.far; focus (first | assumption | (apply Ne.symm; assumption) | (simp; done) | (simp <;> omega)))))) hb5
    obtain ⟨z5_2, c5_2, f5_2⟩ := id B5_2
    have B5_3 : Blk w5 (w.heap.size + 1 + 1 + 1) _ := Blk.below (by repeat (with_reducible (first | assumption | (apply Blk.at; simp; done) | apply Blk.alloc | apply Blk.drew | apply Blk.drewN | apply Blk.more | apply Blk.put | (apply Blk.far; focus (first | assumption | (apply Ne.symm; assumption) | (simp; done) | (simp <;> omega)))))) hb5
    obtain ⟨z5_3, c5_3, f5_3⟩ := id B5_3
    have B5_4 : Blk w5 (w.heap.size + 1 + 1 + 1 + 1) _ := Blk.below (by repeat (with_reducible (first | assumption | (apply Blk.at; simp; done) | apply Blk.alloc | apply Blk.drew | apply Blk.drewN | apply Blk.more | apply Blk.put | (apply Blk.far; focus (first | assumption | (apply Ne.symm; assumption) | (simp; done) | (simp <;> omega)))))) hb5
    obtain ⟨z5_4, c5_4, f5_4⟩ := id B5_4
    have B5_5 : Blk w5 (w.heap.size + 1 + 1 + 1 + 1 + 1) _ := Blk.below (by repeat (with_reducible (first | assumption | (apply Blk.at; simp; done) | apply Blk.alloc | apply Blk.drew | apply Blk.drewN | apply Blk.more | apply Blk.put | (apply Blk.far; focus (first | assumption | (apply Ne.symm; assumption) | (simp; done) | (simp <;> omega)))))) hb5
    obtain ⟨z5_5, c5_5, f5_5⟩ := id B5_5
    have B5_6 : Blk w5 (w1.heap.size) _ := Blk.below (by repeat (with_reducible (first | assumption | (apply Blk.at; simp; done) | apply Blk.alloc | apply Blk.drew | apply Blk.drewN | apply Blk.more | apply Blk.put | (apply Blk.far; focus (first | assumption | (apply Ne.symm; assumption) | (simp; done) | (simp <;> omega)))))) hb5
    obtain ⟨z5_6, c5_6, f5_6⟩ := id B5_6
    have B5_7 : Blk w5 (g3_0) _ := Blk.below (by repeat (with_reducible (first | assumption | (apply Blk.at; simp; done) | apply Blk.alloc | apply Blk.drew | apply Blk.drewN | apply Blk.more | apply Blk.put | (apply Blk.far; focus (first | assumption | (apply Ne.symm; assumption) | (simp; done) | (simp <;> omega)))))) hb5
    obtain ⟨z5_7, c5_7, f5_7⟩ := id B5_7
    go_wp2
    exact bodyPost_ret (v := .tuple #[.agg #[.int .i64 (unit1 n1 n2 n3), .int .i64 (unit2 n1 n2 n3), .int .i64 (unit3 n1 n2 n3)], .int .i64 (sub x (long n1 n2 n3)), .bool true]) (by simp [results, Try.results77, go_sem, *]) rfl ⟨rfl, (by repeat (with_reducible (first | exact Below.refl _ _ | assumption | apply ext_drew | apply ext_drewN | apply ext_alloc | apply ext_more | (refine ext_setCell ?_ (by simp <;> omega) _) | (refine ext_below ?_ (by assumption)))))⟩

set_option maxHeartbeats 4000000 in
theorem rt_ba10 (k x y z p1 p2 p3 k' x' y' z' q1 q2 q3 n2 n3 : Int) (e1 : (k == 1) = true) (e2 : (k' == 1) = false) (H1 : Hid ((sub (max (sub q1 (hf k' x' x')) (min (add q1 (hf k' x' x')) p1)) p1) = 0)) (H2 : Hid ((sub (max (sub q2 (hf k' x' y')) (min (add q2 (hf k' x' y')) p2)) p2) = n2)) (H3 : Hid ((sub (max (sub q3 (hf k' x' z')) (min (add q3 (hf k' x' z')) p3)) p3) = n3)) (hz : ¬ n2 = 0) (hd : sub x (long 0 n2 n3) ≤ 0) (w : World) : Calls Try.prog 77 #[.agg #[.int .i64 k, .int .i64 x, .int .i64 y, .int .i64 z], .agg #[.int .i64 p1, .int .i64 p2, .int .i64 p3], .agg #[.int .i64 k', .int .i64 x', .int .i64 y', .int .i64 z'], .agg #[.int .i64 q1, .int .i64 q2, .int .i64 q3]] w fun e w' => e = .returned (.tuple #[.agg #[.int .i64 0, .int .i64 0, .int .i64 0], .int .i64 0, .bool false]) ∧ Below w.heap.size w w' := by
  have hmc := more_cell
  have hmf := more_frozen
  have hml := more_lt
  go_enter Try.func77, Try.ntmps77
  go_wp2_with fail
  refine (raround_c _ _ _ _ _ _ _ _).mono ?_
  rintro e w1 ⟨rfl, hb1⟩
  have B1_0 : Blk w1 (w.heap.size) _ := Blk.below (by repeat (with_reducible (first | assumption | (apply Blk.at; simp; done) | apply Blk.alloc | apply Blk.drew | apply Blk.drewN | apply Blk.more | apply Blk.put | (apply Blk.far; focus (first | assumption | (apply Ne.symm; assumption) | (simp; done) | (simp <;> omega)))))) hb1
  obtain ⟨z1_0, c1_0, f1_0⟩ := id B1_0
  have B1_1 : Blk w1 (w.heap.size + 1) _ := Blk.below (by repeat (with_reducible (first | assumption | (apply Blk.at; simp; done) | apply Blk.alloc | apply Blk.drew | apply Blk.drewN | apply Blk.more | apply Blk.put | (apply Blk.far; focus (first | assumption | (apply Ne.symm; assumption) | (simp; done) | (simp <;> omega)))))) hb1
  obtain ⟨z1_1, c1_1, f1_1⟩ := id B1_1
  have B1_2 : Blk w1 (w.heap.size + 1 + 1) _ := Blk.below (by repeat (with_reducible (first | assumption | (apply Blk.at; simp; done) | apply Blk.alloc | apply Blk.drew | apply Blk.drewN | apply Blk.more | apply Blk.put | (apply Blk.far; focus (first | assumption | (apply Ne.symm; assumption) | (simp; done) | (simp <;> omega)))))) hb1
  obtain ⟨z1_2, c1_2, f1_2⟩ := id B1_2
  have B1_3 : Blk w1 (w.heap.size + 1 + 1 + 1) _ := Blk.below (by repeat (with_reducible (first | assumption | (apply Blk.at; simp; done) | apply Blk.alloc | apply Blk.drew | apply Blk.drewN | apply Blk.more | apply Blk.put | (apply Blk.far; focus (first | assumption | (apply Ne.symm; assumption) | (simp; done) | (simp <;> omega)))))) hb1
  obtain ⟨z1_3, c1_3, f1_3⟩ := id B1_3
  have B1_4 : Blk w1 (w.heap.size + 1 + 1 + 1 + 1) _ := Blk.below (by repeat (with_reducible (first | assumption | (apply Blk.at; simp; done) | apply Blk.alloc | apply Blk.drew | apply Blk.drewN | apply Blk.more | apply Blk.put | (apply Blk.far; focus (first | assumption | (apply Ne.symm; assumption) | (simp; done) | (simp <;> omega)))))) hb1
  obtain ⟨z1_4, c1_4, f1_4⟩ := id B1_4
  have B1_5 : Blk w1 (w.heap.size + 1 + 1 + 1 + 1 + 1) _ := Blk.below (by repeat (with_reducible (first | assumption | (apply Blk.at; simp; done) | apply Blk.alloc | apply Blk.drew | apply Blk.drewN | apply Blk.more | apply Blk.put | (apply Blk.far; focus (first | assumption | (apply Ne.symm; assumption) | (simp; done) | (simp <;> omega)))))) hb1
  obtain ⟨z1_5, c1_5, f1_5⟩ := id B1_5
  go_wp2_with fail
  refine wp_fresh ?_
  rintro w2 hb2
  have B2_0 : Blk w2 (w.heap.size) _ := Blk.below (by repeat (with_reducible (first | assumption | (apply Blk.at; simp; done) | apply Blk.alloc | apply Blk.drew | apply Blk.drewN | apply Blk.more | apply Blk.put | (apply Blk.far; focus (first | assumption | (apply Ne.symm; assumption) | (simp; done) | (simp <;> omega)))))) hb2
  obtain ⟨z2_0, c2_0, f2_0⟩ := id B2_0
  have B2_1 : Blk w2 (w.heap.size + 1) _ := Blk.below (by repeat (with_reducible (first | assumption | (apply Blk.at; simp; done) | apply Blk.alloc | apply Blk.drew | apply Blk.drewN | apply Blk.more | apply Blk.put | (apply Blk.far; focus (first | assumption | (apply Ne.symm; assumption) | (simp; done) | (simp <;> omega)))))) hb2
  obtain ⟨z2_1, c2_1, f2_1⟩ := id B2_1
  have B2_2 : Blk w2 (w.heap.size + 1 + 1) _ := Blk.below (by repeat (with_reducible (first | assumption | (apply Blk.at; simp; done) | apply Blk.alloc | apply Blk.drew | apply Blk.drewN | apply Blk.more | apply Blk.put | (apply Blk.far; focus (first | assumption | (apply Ne.symm; assumption) | (simp; done) | (simp <;> omega)))))) hb2
  obtain ⟨z2_2, c2_2, f2_2⟩ := id B2_2
  have B2_3 : Blk w2 (w.heap.size + 1 + 1 + 1) _ := Blk.below (by repeat (with_reducible (first | assumption | (apply Blk.at; simp; done) | apply Blk.alloc | apply Blk.drew | apply Blk.drewN | apply Blk.more | apply Blk.put | (apply Blk.far; focus (first | assumption | (apply Ne.symm; assumption) | (simp; done) | (simp <;> omega)))))) hb2
  obtain ⟨z2_3, c2_3, f2_3⟩ := id B2_3
  have B2_4 : Blk w2 (w.heap.size + 1 + 1 + 1 + 1) _ := Blk.below (by repeat (with_reducible (first | assumption | (apply Blk.at; simp; done) | apply Blk.alloc | apply Blk.drew | apply Blk.drewN | apply Blk.more | apply Blk.put | (apply Blk.far; focus (first | assumption | (apply Ne.symm; assumption) | (simp; done) | (simp <;> omega)))))) hb2
  obtain ⟨z2_4, c2_4, f2_4⟩ := id B2_4
  have B2_5 : Blk w2 (w.heap.size + 1 + 1 + 1 + 1 + 1) _ := Blk.below (by repeat (with_reducible (first | assumption | (apply Blk.at; simp; done) | apply Blk.alloc | apply Blk.drew | apply Blk.drewN | apply Blk.more | apply Blk.put | (apply Blk.far; focus (first | assumption | (apply Ne.symm; assumption) | (simp; done) | (simp <;> omega)))))) hb2
  obtain ⟨z2_5, c2_5, f2_5⟩ := id B2_5
  have B2_6 : Blk w2 (w1.heap.size) _ := Blk.below (by repeat (with_reducible (first | assumption | (apply Blk.at; simp; done) | apply Blk.alloc | apply Blk.drew | apply Blk.drewN | apply Blk.more | apply Blk.put | (apply Blk.far; focus (first | assumption | (apply Ne.symm; assumption) | (simp; done) | (simp <;> omega)))))) hb2
  try simp only [List.setIfInBounds_toArray, List.set_cons_zero, List.set_cons_succ] at B2_6
  obtain ⟨z2_6, c2_6, f2_6⟩ := id B2_6
  refine region_grow (A := ?A3) 5 [15] (fun _ => #[.int .i64 0, .int .i64 0, .int .i64 0]) (by kernel_rfl) (by kernel_rfl) ?hrun3 ?hq3 ?htail3
  case hq3 =>
    intro w0 hb0
    simp only [List.take_succ_cons, List.take_zero]
    have B0_0 : Blk w0 _ _ := B2_0.below hb0
    obtain ⟨z0_0, c0_0, f0_0⟩ := id B0_0
    have B0_1 : Blk w0 _ _ := B2_1.below hb0
    obtain ⟨z0_1, c0_1, f0_1⟩ := id B0_1
    have B0_2 : Blk w0 _ _ := B2_2.below hb0
    obtain ⟨z0_2, c0_2, f0_2⟩ := id B0_2
    have B0_3 : Blk w0 _ _ := B2_3.below hb0
    obtain ⟨z0_3, c0_3, f0_3⟩ := id B0_3
    have B0_4 : Blk w0 _ _ := B2_4.below hb0
    obtain ⟨z0_4, c0_4, f0_4⟩ := id B0_4
    have B0_5 : Blk w0 _ _ := B2_5.below hb0
    obtain ⟨z0_5, c0_5, f0_5⟩ := id B0_5
    have B0_6 : Blk w0 _ _ := B2_6.below hb0
    obtain ⟨z0_6, c0_6, f0_6⟩ := id B0_6
    repeat (go_big_quiet_step ((first | (go_at_call 28; exact calls_after (rnear_c _ _ _ _ _ _ _ _ _ _)) | (go_at_call 61; exact calls_after (rminus_c _ _ _ _ _ _ _)))))
    refine wpQuiet_nil ?_
    rfl
  case hrun3 =>
    intro j hj
    match j, hj with
    | 0, _ => exact ⟨_, _, rfl, fun a w => by simp [go_sem]; rfl⟩
  case htail3 =>
    intro gs w3 hb3 hblk hne
    obtain ⟨G3_0, hg3_0⟩ := hblk 0 (by decide)
    simp only [List.drop_succ_cons, List.drop_zero, List.length_cons, List.length_nil, laySlots]
    clear hblk hne
    generalize gs 0 = g3_0 at *
    have B3_0 : Blk w3 _ _ := B2_0.below hb3
    obtain ⟨z3_0, c3_0, f3_0⟩ := id B3_0
    have B3_1 : Blk w3 _ _ := B2_1.below hb3
    obtain ⟨z3_1, c3_1, f3_1⟩ := id B3_1
    have B3_2 : Blk w3 _ _ := B2_2.below hb3
    obtain ⟨z3_2, c3_2, f3_2⟩ := id B3_2
    have B3_3 : Blk w3 _ _ := B2_3.below hb3
    obtain ⟨z3_3, c3_3, f3_3⟩ := id B3_3
    have B3_4 : Blk w3 _ _ := B2_4.below hb3
    obtain ⟨z3_4, c3_4, f3_4⟩ := id B3_4
    have B3_5 : Blk w3 _ _ := B2_5.below hb3
    obtain ⟨z3_5, c3_5, f3_5⟩ := id B3_5
    have B3_6 : Blk w3 _ _ := B2_6.below hb3
    obtain ⟨z3_6, c3_6, f3_6⟩ := id B3_6
    obtain ⟨zg3_0, cg3_0, fg3_0⟩ := id G3_0
    have ne3_0_0 : g3_0 ≠ w.heap.size := by omega
    have ne3_0_1 : g3_0 ≠ w.heap.size + 1 := by omega
    have ne3_0_2 : g3_0 ≠ w.heap.size + 1 + 1 := by omega
    have ne3_0_3 : g3_0 ≠ w.heap.size + 1 + 1 + 1 := by omega
    have ne3_0_4 : g3_0 ≠ w.heap.size + 1 + 1 + 1 + 1 := by omega
    have ne3_0_5 : g3_0 ≠ w.heap.size + 1 + 1 + 1 + 1 + 1 := by omega
    have ne3_0_6 : g3_0 ≠ w1.heap.size := by omega
    simp only [H1.out, H2.out, H3.out]
    go_wp2_with fail
    refine wp_fresh ?_
    rintro w4 hb4
    have B4_0 : Blk w4 (w.heap.size) _ := Blk.below (by repeat (with_reducible (first | assumption | (apply Blk.at; simp; done) | apply Blk.alloc | apply Blk.drew | apply Blk.drewN | apply Blk.more | apply Blk.put | (apply Blk.far; focus (first | assumption | (apply Ne.symm; assumption) | (simp; done) | (simp <;> omega)))))) hb4
    obtain ⟨z4_0, c4_0, f4_0⟩ := id B4_0
    have B4_1 : Blk w4 (w.heap.size + 1) _ := Blk.below (by repeat (with_reducible (first | assumption | (apply Blk.at; simp; done) | apply Blk.alloc | apply Blk.drew | apply Blk.drewN | apply Blk.more | apply Blk.put | (apply Blk.far; focus (first | assumption | (apply Ne.symm; assumption) | (simp; done) | (simp <;> omega)))))) hb4
    obtain ⟨z4_1, c4_1, f4_1⟩ := id B4_1
    have B4_2 : Blk w4 (w.heap.size + 1 + 1) _ := Blk.below (by repeat (with_reducible (first | assumption | (apply Blk.at; simp; done) | apply Blk.alloc | apply Blk.drew | apply Blk.drewN | apply Blk.more | apply Blk.put | (apply Blk.far; focus (first | assumption | (apply Ne.symm; assumption) | (simp; done) | (simp <;> omega)))))) hb4
    obtain ⟨z4_2, c4_2, f4_2⟩ := id B4_2
    have B4_3 : Blk w4 (w.heap.size + 1 + 1 + 1) _ := Blk.below (by repeat (with_reducible (first | assumption | (apply Blk.at; simp; done) | apply Blk.alloc | apply Blk.drew | apply Blk.drewN | apply Blk.more | apply Blk.put | (apply Blk.far; focus (first | assumption | (apply Ne.symm; assumption) | (simp; done) | (simp <;> omega)))))) hb4
    obtain ⟨z4_3, c4_3, f4_3⟩ := id B4_3
    have B4_4 : Blk w4 (w.heap.size + 1 + 1 + 1 + 1) _ := Blk.below (by repeat (with_reducible (first | assumption | (apply Blk.at; simp; done) | apply Blk.alloc | apply Blk.drew | apply Blk.drewN | apply Blk.more | apply Blk.put | (apply Blk.far; focus (first | assumption | (apply Ne.symm; assumption) | (simp; done) | (simp <;> omega)))))) hb4
    obtain ⟨z4_4, c4_4, f4_4⟩ := id B4_4
    have B4_5 : Blk w4 (w.heap.size + 1 + 1 + 1 + 1 + 1) _ := Blk.below (by repeat (with_reducible (first | assumption | (apply Blk.at; simp; done) | apply Blk.alloc | apply Blk.drew | apply Blk.drewN | apply Blk.more | apply Blk.put | (apply Blk.far; focus (first | assumption | (apply Ne.symm; assumption) | (simp; done) | (simp <;> omega)))))) hb4
    obtain ⟨z4_5, c4_5, f4_5⟩ := id B4_5
    have B4_6 : Blk w4 (w1.heap.size) _ := Blk.below (by repeat (with_reducible (first | assumption | (apply Blk.at; simp; done) | apply Blk.alloc | apply Blk.drew | apply Blk.drewN | apply Blk.more | apply Blk.put | (apply Blk.far; focus (first | assumption | (apply Ne.symm; assumption) | (simp; done) | (simp <;> omega)))))) hb4
    obtain ⟨z4_6, c4_6, f4_6⟩ := id B4_6
    have B4_7 : Blk w4 (g3_0) _ := Blk.below (by repeat (with_reducible (first | assumption | (apply Blk.at; simp; done) | apply Blk.alloc | apply Blk.drew | apply Blk.drewN | apply Blk.more | apply Blk.put | (apply Blk.far; focus (first | assumption | (apply Ne.symm; assumption) | (simp; done) | (simp <;> omega)))))) hb4
    try simp only [List.setIfInBounds_toArray, List.set_cons_zero, List.set_cons_succ] at B4_7
    obtain ⟨z4_7, c4_7, f4_7⟩ := id B4_7
    refine region_quiet_but 8 (by kernel_rfl) (by kernel_rfl) ?_
    simp only [List.take_succ_cons, List.take_zero, List.drop_succ_cons, List.drop_zero]
    repeat (go_big_quiet_step (first | (go_at_call 69; exact calls_after (runit_c _ _ _ _)) | (go_at_call 67; exact calls_after (rlong_c _ _ _ _)) | (go_at_call 53; exact calls_after_same (rsub_c _ _ _))))
    refine wpQuiet_nil ?_
    rintro w5 hw5
    have hb5 := after_below hw5
    clear hw5
    have B5_0 : Blk w5 (w.heap.size) _ := Blk.below (by repeat (with_reducible (first | assumption | (apply Blk.at; simp; done) | apply Blk.alloc | apply Blk.drew | apply Blk.drewN | apply Blk.more | apply Blk.put | (apply Blk.far; focus (first | assumption | (apply Ne.symm; assumption) | (simp; done) | (simp <;> omega)))))) hb5
    obtain ⟨z5_0, c5_0, f5_0⟩ := id B5_0
    have B5_1 : Blk w5 (w.heap.size + 1) _ := Blk.below (by repeat (with_reducible (first | assumption | (apply Blk.at; simp; done) | apply Blk.alloc | apply Blk.drew | apply Blk.drewN | apply Blk.more | apply Blk.put | (apply Blk.far; focus (first | assumption | (apply Ne.symm; assumption) | (simp; done) | (simp <;> omega)))))) hb5
    obtain ⟨z5_1, c5_1, f5_1⟩ := id B5_1
    have B5_2 : Blk w5 (w.heap.size + 1 + 1) _ := Blk.below (by repeat (with_reducible (first | assumption | (apply Blk.at; simp; done) | apply Blk.alloc | apply Blk.drew | apply Blk.drewN | apply Blk.more | apply Blk.put | (apply Blk.far; focus (first | assumption | (apply Ne.symm; assumption) | (simp; done) | (simp <;> omega)))))) hb5
    obtain ⟨z5_2, c5_2, f5_2⟩ := id B5_2
    have B5_3 : Blk w5 (w.heap.size + 1 + 1 + 1) _ := Blk.below (by repeat (with_reducible (first | assumption | (apply Blk.at; simp; done) | apply Blk.alloc | apply Blk.drew | apply Blk.drewN | apply Blk.more | apply Blk.put | (apply Blk.far; focus (first | assumption | (apply Ne.symm; assumption) | (simp; done) | (simp <;> omega)))))) hb5
    obtain ⟨z5_3, c5_3, f5_3⟩ := id B5_3
    have B5_4 : Blk w5 (w.heap.size + 1 + 1 + 1 + 1) _ := Blk.below (by repeat (with_reducible (first | assumption | (apply Blk.at; simp; done) | apply Blk.alloc | apply Blk.drew | apply Blk.drewN | apply Blk.more | apply Blk.put | (apply Blk.far; focus (first | assumption | (apply Ne.symm; assumption) | (simp; done) | (simp <;> omega)))))) hb5
    obtain ⟨z5_4, c5_4, f5_4⟩ := id B5_4
    have B5_5 : Blk w5 (w.heap.size + 1 + 1 + 1 + 1 + 1) _ := Blk.below (by repeat (with_reducible (first | assumption | (apply Blk.at; simp; done) | apply Blk.alloc | apply Blk.drew | apply Blk.drewN | apply Blk.more | apply Blk.put | (apply Blk.far; focus (first | assumption | (apply Ne.symm; assumption) | (simp; done) | (simp <;> omega)))))) hb5
    obtain ⟨z5_5, c5_5, f5_5⟩ := id B5_5
    have B5_6 : Blk w5 (w1.heap.size) _ := Blk.below (by repeat (with_reducible (first | assumption | (apply Blk.at; simp; done) | apply Blk.alloc | apply Blk.drew | apply Blk.drewN | apply Blk.more | apply Blk.put | (apply Blk.far; focus (first | assumption | (apply Ne.symm; assumption) | (simp; done) | (simp <;> omega)))))) hb5
    obtain ⟨z5_6, c5_6, f5_6⟩ := id B5_6
    have B5_7 : Blk w5 (g3_0) _ := Blk.below (by repeat (with_reducible (first | assumption | (apply Blk.at; simp; done) | apply Blk.alloc | apply Blk.drew | apply Blk.drewN | apply Blk.more | apply Blk.put | (apply Blk.far; focus (first | assumption | (apply Ne.symm; assumption) | (simp; done) | (simp <;> omega)))))) hb5
    obtain ⟨z5_7, c5_7, f5_7⟩ := id B5_7
    go_wp2
    exact bodyPost_ret (v := .tuple #[.agg #[.int .i64 0, .int .i64 0, .int .i64 0], .int .i64 0, .bool false]) (by simp [results, Try.results77, go_sem, *]) rfl ⟨rfl, (by repeat (with_reducible (first | exact Below.refl _ _ | assumption | apply ext_drew | apply ext_drewN | apply ext_alloc | apply ext_more | (refine ext_setCell ?_ (by simp <;> omega) _) | (refine ext_below ?_ (by assumption)))))⟩

set_option maxHeartbeats 4000000 in
theorem rt_ba11 (k x y z p1 p2 p3 k' x' y' z' q1 q2 q3 n2 n3 : Int) (e1 : (k == 1) = true) (e2 : (k' == 1) = false) (H1 : Hid ((sub (max (sub q1 (hf k' x' x')) (min (add q1 (hf k' x' x')) p1)) p1) = 0)) (H2 : Hid ((sub (max (sub q2 (hf k' x' y')) (min (add q2 (hf k' x' y')) p2)) p2) = n2)) (H3 : Hid ((sub (max (sub q3 (hf k' x' z')) (min (add q3 (hf k' x' z')) p3)) p3) = n3)) (hz : ¬ n2 = 0) (hd : 0 < sub x (long 0 n2 n3)) (w : World) : Calls Try.prog 77 #[.agg #[.int .i64 k, .int .i64 x, .int .i64 y, .int .i64 z], .agg #[.int .i64 p1, .int .i64 p2, .int .i64 p3], .agg #[.int .i64 k', .int .i64 x', .int .i64 y', .int .i64 z'], .agg #[.int .i64 q1, .int .i64 q2, .int .i64 q3]] w fun e w' => e = .returned (.tuple #[.agg #[.int .i64 (unit1 0 n2 n3), .int .i64 (unit2 0 n2 n3), .int .i64 (unit3 0 n2 n3)], .int .i64 (sub x (long 0 n2 n3)), .bool true]) ∧ Below w.heap.size w w' := by
  have hmc := more_cell
  have hmf := more_frozen
  have hml := more_lt
  go_enter Try.func77, Try.ntmps77
  go_wp2_with fail
  refine (raround_c _ _ _ _ _ _ _ _).mono ?_
  rintro e w1 ⟨rfl, hb1⟩
  have B1_0 : Blk w1 (w.heap.size) _ := Blk.below (by repeat (with_reducible (first | assumption | (apply Blk.at; simp; done) | apply Blk.alloc | apply Blk.drew | apply Blk.drewN | apply Blk.more | apply Blk.put | (apply Blk.far; focus (first | assumption | (apply Ne.symm; assumption) | (simp; done) | (simp <;> omega)))))) hb1
  obtain ⟨z1_0, c1_0, f1_0⟩ := id B1_0
  have B1_1 : Blk w1 (w.heap.size + 1) _ := Blk.below (by repeat (with_reducible (first | assumption | (apply Blk.at; simp; done) | apply Blk.alloc | apply Blk.drew | apply Blk.drewN | apply Blk.more | apply Blk.put | (apply Blk.far; focus (first | assumption | (apply Ne.symm; assumption) | (simp; done) | (simp <;> omega)))))) hb1
  obtain ⟨z1_1, c1_1, f1_1⟩ := id B1_1
  have B1_2 : Blk w1 (w.heap.size + 1 + 1) _ := Blk.below (by repeat (with_reducible (first | assumption | (apply Blk.at; simp; done) | apply Blk.alloc | apply Blk.drew | apply Blk.drewN | apply Blk.more | apply Blk.put | (apply Blk.far; focus (first | assumption | (apply Ne.symm; assumption) | (simp; done) | (simp <;> omega)))))) hb1
  obtain ⟨z1_2, c1_2, f1_2⟩ := id B1_2
  have B1_3 : Blk w1 (w.heap.size + 1 + 1 + 1) _ := Blk.below (by repeat (with_reducible (first | assumption | (apply Blk.at; simp; done) | apply Blk.alloc | apply Blk.drew | apply Blk.drewN | apply Blk.more | apply Blk.put | (apply Blk.far; focus (first | assumption | (apply Ne.symm; assumption) | (simp; done) | (simp <;> omega)))))) hb1
  obtain ⟨z1_3, c1_3, f1_3⟩ := id B1_3
  have B1_4 : Blk w1 (w.heap.size + 1 + 1 + 1 + 1) _ := Blk.below (by repeat (with_reducible (first | assumption | (apply Blk.at; simp; done) | apply Blk.alloc | apply Blk.drew | apply Blk.drewN | apply Blk.more | apply Blk.put | (apply Blk.far; focus (first | assumption | (apply Ne.symm; assumption) | (simp; done) | (simp <;> omega)))))) hb1
  obtain ⟨z1_4, c1_4, f1_4⟩ := id B1_4
  have B1_5 : Blk w1 (w.heap.size + 1 + 1 + 1 + 1 + 1) _ := Blk.below (by repeat (with_reducible (first | assumption | (apply Blk.at; simp; done) | apply Blk.alloc | apply Blk.drew | apply Blk.drewN | apply Blk.more | apply Blk.put | (apply Blk.far; focus (first | assumption | (apply Ne.symm; assumption) | (simp; done) | (simp <;> omega)))))) hb1
  obtain ⟨z1_5, c1_5, f1_5⟩ := id B1_5
  go_wp2_with fail
  refine wp_fresh ?_
  rintro w2 hb2
  have B2_0 : Blk w2 (w.heap.size) _ := Blk.below (by repeat (with_reducible (first | assumption | (apply Blk.at; simp; done) | apply Blk.alloc | apply Blk.drew | apply Blk.drewN | apply Blk.more | apply Blk.put | (apply Blk.far; focus (first | assumption | (apply Ne.symm; assumption) | (simp; done) | (simp <;> omega)))))) hb2
  obtain ⟨z2_0, c2_0, f2_0⟩ := id B2_0
  have B2_1 : Blk w2 (w.heap.size + 1) _ := Blk.below (by repeat (with_reducible (first | assumption | (apply Blk.at; simp; done) | apply Blk.alloc | apply Blk.drew | apply Blk.drewN | apply Blk.more | apply Blk.put | (apply Blk.far; focus (first | assumption | (apply Ne.symm; assumption) | (simp; done) | (simp <;> omega)))))) hb2
  obtain ⟨z2_1, c2_1, f2_1⟩ := id B2_1
  have B2_2 : Blk w2 (w.heap.size + 1 + 1) _ := Blk.below (by repeat (with_reducible (first | assumption | (apply Blk.at; simp; done) | apply Blk.alloc | apply Blk.drew | apply Blk.drewN | apply Blk.more | apply Blk.put | (apply Blk.far; focus (first | assumption | (apply Ne.symm; assumption) | (simp; done) | (simp <;> omega)))))) hb2
  obtain ⟨z2_2, c2_2, f2_2⟩ := id B2_2
  have B2_3 : Blk w2 (w.heap.size + 1 + 1 + 1) _ := Blk.below (by repeat (with_reducible (first | assumption | (apply Blk.at; simp; done) | apply Blk.alloc | apply Blk.drew | apply Blk.drewN | apply Blk.more | apply Blk.put | (apply Blk.far; focus (first | assumption | (apply Ne.symm; assumption) | (simp; done) | (simp <;> omega)))))) hb2
  obtain ⟨z2_3, c2_3, f2_3⟩ := id B2_3
  have B2_4 : Blk w2 (w.heap.size + 1 + 1 + 1 + 1) _ := Blk.below (by repeat (with_reducible (first | assumption | (apply Blk.at; simp; done) | apply Blk.alloc | apply Blk.drew | apply Blk.drewN | apply Blk.more | apply Blk.put | (apply Blk.far; focus (first | assumption | (apply Ne.symm; assumption) | (simp; done) | (simp <;> omega)))))) hb2
  obtain ⟨z2_4, c2_4, f2_4⟩ := id B2_4
  have B2_5 : Blk w2 (w.heap.size + 1 + 1 + 1 + 1 + 1) _ := Blk.below (by repeat (with_reducible (first | assumption | (apply Blk.at; simp; done) | apply Blk.alloc | apply Blk.drew | apply Blk.drewN | apply Blk.more | apply Blk.put | (apply Blk.far; focus (first | assumption | (apply Ne.symm; assumption) | (simp; done) | (simp <;> omega)))))) hb2
  obtain ⟨z2_5, c2_5, f2_5⟩ := id B2_5
  have B2_6 : Blk w2 (w1.heap.size) _ := Blk.below (by repeat (with_reducible (first | assumption | (apply Blk.at; simp; done) | apply Blk.alloc | apply Blk.drew | apply Blk.drewN | apply Blk.more | apply Blk.put | (apply Blk.far; focus (first | assumption | (apply Ne.symm; assumption) | (simp; done) | (simp <;> omega)))))) hb2
  try simp only [List.setIfInBounds_toArray, List.set_cons_zero, List.set_cons_succ] at B2_6
  obtain ⟨z2_6, c2_6, f2_6⟩ := id B2_6
  refine region_grow (A := ?A3) 5 [15] (fun _ => #[.int .i64 0, .int .i64 0, .int .i64 0]) (by kernel_rfl) (by kernel_rfl) ?hrun3 ?hq3 ?htail3
  case hq3 =>
    intro w0 hb0
    simp only [List.take_succ_cons, List.take_zero]
    have B0_0 : Blk w0 _ _ := B2_0.below hb0
    obtain ⟨z0_0, c0_0, f0_0⟩ := id B0_0
    have B0_1 : Blk w0 _ _ := B2_1.below hb0
    obtain ⟨z0_1, c0_1, f0_1⟩ := id B0_1
    have B0_2 : Blk w0 _ _ := B2_2.below hb0
    obtain ⟨z0_2, c0_2, f0_2⟩ := id B0_2
    have B0_3 : Blk w0 _ _ := B2_3.below hb0
    obtain ⟨z0_3, c0_3, f0_3⟩ := id B0_3
    have B0_4 : Blk w0 _ _ := B2_4.below hb0
    obtain ⟨z0_4, c0_4, f0_4⟩ := id B0_4
    have B0_5 : Blk w0 _ _ := B2_5.below hb0
    obtain ⟨z0_5, c0_5, f0_5⟩ := id B0_5
    have B0_6 : Blk w0 _ _ := B2_6.below hb0
    obtain ⟨z0_6, c0_6, f0_6⟩ := id B0_6
    repeat (go_big_quiet_step ((first | (go_at_call 28; exact calls_after (rnear_c _ _ _ _ _ _ _ _ _ _)) | (go_at_call 61; exact calls_after (rminus_c _ _ _ _ _ _ _)))))
    refine wpQuiet_nil ?_
    rfl
  case hrun3 =>
    intro j hj
    match j, hj with
    | 0, _ => exact ⟨_, _, rfl, fun a w => by simp [go_sem]; rfl⟩
  case htail3 =>
    intro gs w3 hb3 hblk hne
    obtain ⟨G3_0, hg3_0⟩ := hblk 0 (by decide)
    simp only [List.drop_succ_cons, List.drop_zero, List.length_cons, List.length_nil, laySlots]
    clear hblk hne
    generalize gs 0 = g3_0 at *
    have B3_0 : Blk w3 _ _ := B2_0.below hb3
    obtain ⟨z3_0, c3_0, f3_0⟩ := id B3_0
    have B3_1 : Blk w3 _ _ := B2_1.below hb3
    obtain ⟨z3_1, c3_1, f3_1⟩ := id B3_1
    have B3_2 : Blk w3 _ _ := B2_2.below hb3
    obtain ⟨z3_2, c3_2, f3_2⟩ := id B3_2
    have B3_3 : Blk w3 _ _ := B2_3.below hb3
    obtain ⟨z3_3, c3_3, f3_3⟩ := id B3_3
    have B3_4 : Blk w3 _ _ := B2_4.below hb3
    obtain ⟨z3_4, c3_4, f3_4⟩ := id B3_4
    have B3_5 : Blk w3 _ _ := B2_5.below hb3
    obtain ⟨z3_5, c3_5, f3_5⟩ := id B3_5
    have B3_6 : Blk w3 _ _ := B2_6.below hb3
    obtain ⟨z3_6, c3_6, f3_6⟩ := id B3_6
    obtain ⟨zg3_0, cg3_0, fg3_0⟩ := id G3_0
    have ne3_0_0 : g3_0 ≠ w.heap.size := by omega
    have ne3_0_1 : g3_0 ≠ w.heap.size + 1 := by omega
    have ne3_0_2 : g3_0 ≠ w.heap.size + 1 + 1 := by omega
    have ne3_0_3 : g3_0 ≠ w.heap.size + 1 + 1 + 1 := by omega
    have ne3_0_4 : g3_0 ≠ w.heap.size + 1 + 1 + 1 + 1 := by omega
    have ne3_0_5 : g3_0 ≠ w.heap.size + 1 + 1 + 1 + 1 + 1 := by omega
    have ne3_0_6 : g3_0 ≠ w1.heap.size := by omega
    simp only [H1.out, H2.out, H3.out]
    go_wp2_with fail
    refine wp_fresh ?_
    rintro w4 hb4
    have B4_0 : Blk w4 (w.heap.size) _ := Blk.below (by repeat (with_reducible (first | assumption | (apply Blk.at; simp; done) | apply Blk.alloc | apply Blk.drew | apply Blk.drewN | apply Blk.more | apply Blk.put | (apply Blk.far; focus (first | assumption | (apply Ne.symm; assumption) | (simp; done) | (simp <;> omega)))))) hb4
    obtain ⟨z4_0, c4_0, f4_0⟩ := id B4_0
    have B4_1 : Blk w4 (w.heap.size + 1) _ := Blk.below (by repeat (with_reducible (first | assumption | (apply Blk.at; simp; done) | apply Blk.alloc | apply Blk.drew | apply Blk.drewN | apply Blk.more | apply Blk.put | (apply Blk.far; focus (first | assumption | (apply Ne.symm; assumption) | (simp; done) | (simp <;> omega)))))) hb4
    obtain ⟨z4_1, c4_1, f4_1⟩ := id B4_1
    have B4_2 : Blk w4 (w.heap.size + 1 + 1) _ := Blk.below (by repeat (with_reducible (first | assumption | (apply Blk.at; simp; done) | apply Blk.alloc | apply Blk.drew | apply Blk.drewN | apply Blk.more | apply Blk.put | (apply Blk.far; focus (first | assumption | (apply Ne.symm; assumption) | (simp; done) | (simp <;> omega)))))) hb4
    obtain ⟨z4_2, c4_2, f4_2⟩ := id B4_2
    have B4_3 : Blk w4 (w.heap.size + 1 + 1 + 1) _ := Blk.below (by repeat (with_reducible (first | assumption | (apply Blk.at; simp; done) | apply Blk.alloc | apply Blk.drew | apply Blk.drewN | apply Blk.more | apply Blk.put | (apply Blk.far; focus (first | assumption | (apply Ne.symm; assumption) | (simp; done) | (simp <;> omega)))))) hb4
    obtain ⟨z4_3, c4_3, f4_3⟩ := id B4_3
    have B4_4 : Blk w4 (w.heap.size + 1 + 1 + 1 + 1) _ := Blk.below (by repeat (with_reducible (first | assumption | (apply Blk.at; simp; done) | apply Blk.alloc | apply Blk.drew | apply Blk.drewN | apply Blk.more | apply Blk.put | (apply Blk.far; focus (first | assumption | (apply Ne.symm; assumption) | (simp; done) | (simp <;> omega)))))) hb4
    obtain ⟨z4_4, c4_4, f4_4⟩ := id B4_4
    have B4_5 : Blk w4 (w.heap.size + 1 + 1 + 1 + 1 + 1) _ := Blk.below (by repeat (with_reducible (first | assumption | (apply Blk.at; simp; done) | apply Blk.alloc | apply Blk.drew | apply Blk.drewN | apply Blk.more | apply Blk.put | (apply Blk.far; focus (first | assumption | (apply Ne.symm; assumption) | (simp; done) | (simp <;> omega)))))) hb4
    obtain ⟨z4_5, c4_5, f4_5⟩ := id B4_5
    have B4_6 : Blk w4 (w1.heap.size) _ := Blk.below (by repeat (with_reducible (first | assumption | (apply Blk.at; simp; done) | apply Blk.alloc | apply Blk.drew | apply Blk.drewN | apply Blk.more | apply Blk.put | (apply Blk.far; focus (first | assumption | (apply Ne.symm; assumption) | (simp; done) | (simp <;> omega)))))) hb4
    obtain ⟨z4_6, c4_6, f4_6⟩ := id B4_6
    have B4_7 : Blk w4 (g3_0) _ := Blk.below (by repeat (with_reducible (first | assumption | (apply Blk.at; simp; done) | apply Blk.alloc | apply Blk.drew | apply Blk.drewN | apply Blk.more | apply Blk.put | (apply Blk.far; focus (first | assumption | (apply Ne.symm; assumption) | (simp; done) | (simp <;> omega)))))) hb4
    try simp only [List.setIfInBounds_toArray, List.set_cons_zero, List.set_cons_succ] at B4_7
    obtain ⟨z4_7, c4_7, f4_7⟩ := id B4_7
    refine region_quiet_but 8 (by kernel_rfl) (by kernel_rfl) ?_
    simp only [List.take_succ_cons, List.take_zero, List.drop_succ_cons, List.drop_zero]
    repeat (go_big_quiet_step (first | (go_at_call 69; exact calls_after (runit_c _ _ _ _)) | (go_at_call 67; exact calls_after (rlong_c _ _ _ _)) | (go_at_call 53; exact calls_after_same (rsub_c _ _ _))))
    refine wpQuiet_nil ?_
    rintro w5 hw5
    have hb5 := after_below hw5
    clear hw5
    have B5_0 : Blk w5 (w.heap.size) _ := Blk.below (by repeat (with_reducible (first | assumption | (apply Blk.at; simp; done) | apply Blk.alloc | apply Blk.drew | apply Blk.drewN | apply Blk.more | apply Blk.put | (apply Blk.far; focus (first | assumption | (apply Ne.symm; assumption) | (simp; done) | (simp <;> omega)))))) hb5
    obtain ⟨z5_0, c5_0, f5_0⟩ := id B5_0
    have B5_1 : Blk w5 (w.heap.size + 1) _ := Blk.below (by repeat (with_reducible (first | assumption | (apply Blk.at; simp; done) | apply Blk.alloc | apply Blk.drew | apply Blk.drewN | apply Blk.more | apply Blk.put | (apply Blk.far; focus (first | assumption | (apply Ne.symm; assumption) | (simp; done) | (simp <;> omega)))))) hb5
    obtain ⟨z5_1, c5_1, f5_1⟩ := id B5_1
    have B5_2 : Blk w5 (w.heap.size + 1 + 1) _ := Blk.below (by repeat (with_reducible (first | assumption | (apply Blk.at; simp; done) | apply Blk.alloc | apply Blk.drew | apply Blk.drewN | apply Blk.more | apply Blk.put | (apply Blk.far; focus (first | assumption | (apply Ne.symm; assumption) | (simp; done) | (simp <;> omega)))))) hb5
    obtain ⟨z5_2, c5_2, f5_2⟩ := id B5_2
    have B5_3 : Blk w5 (w.heap.size + 1 + 1 + 1) _ := Blk.below (by repeat (with_reducible (first | assumption | (apply Blk.at; simp; done) | apply Blk.alloc | apply Blk.drew | apply Blk.drewN | apply Blk.more | apply Blk.put | (apply Blk.far; focus (first | assumption | (apply Ne.symm; assumption) | (simp; done) | (simp <;> omega)))))) hb5
    obtain ⟨z5_3, c5_3, f5_3⟩ := id B5_3
    have B5_4 : Blk w5 (w.heap.size + 1 + 1 + 1 + 1) _ := Blk.below (by repeat (with_reducible (first | assumption | (apply Blk.at; simp; done) | apply Blk.alloc | apply Blk.drew | apply Blk.drewN | apply Blk.more | apply Blk.put | (apply Blk.far; focus (first | assumption | (apply Ne.symm; assumption) | (simp; done) | (simp <;> omega)))))) hb5
    obtain ⟨z5_4, c5_4, f5_4⟩ := id B5_4
    have B5_5 : Blk w5 (w.heap.size + 1 + 1 + 1 + 1 + 1) _ := Blk.below (by repeat (with_reducible (first | assumption | (apply Blk.at; simp; done) | apply Blk.alloc | apply Blk.drew | apply Blk.drewN | apply Blk.more | apply Blk.put | (apply Blk.far; focus (first | assumption | (apply Ne.symm; assumption) | (simp; done) | (simp <;> omega)))))) hb5
    obtain ⟨z5_5, c5_5, f5_5⟩ := id B5_5
    have B5_6 : Blk w5 (w1.heap.size) _ := Blk.below (by repeat (with_reducible (first | assumption | (apply Blk.at; simp; done) | apply Blk.alloc | apply Blk.drew | apply Blk.drewN | apply Blk.more | apply Blk.put | (apply Blk.far; focus (first | assumption | (apply Ne.symm; assumption) | (simp; done) | (simp <;> omega)))))) hb5
    obtain ⟨z5_6, c5_6, f5_6⟩ := id B5_6
    have B5_7 : Blk w5 (g3_0) _ := Blk.below (by repeat (with_reducible (first | assumption | (apply Blk.at; simp; done) | apply Blk.alloc | apply Blk.drew | apply Blk.drewN | apply Blk.more | apply Blk.put | (apply Blk.far; focus (first | assumption | (apply Ne.symm; assumption) | (simp; done) | (simp <;> omega)))))) hb5
    obtain ⟨z5_7, c5_7, f5_7⟩ := id B5_7
    go_wp2
    exact bodyPost_ret (v := .tuple #[.agg #[.int .i64 (unit1 0 n2 n3), .int .i64 (unit2 0 n2 n3), .int .i64 (unit3 0 n2 n3)], .int .i64 (sub x (long 0 n2 n3)), .bool true]) (by simp [results, Try.results77, go_sem, *]) rfl ⟨rfl, (by repeat (with_reducible (first | exact Below.refl _ _ | assumption | apply ext_drew | apply ext_drewN | apply ext_alloc | apply ext_more | (refine ext_setCell ?_ (by simp <;> omega) _) | (refine ext_below ?_ (by assumption)))))⟩

set_option maxHeartbeats 4000000 in
theorem rt_ba20 (k x y z p1 p2 p3 k' x' y' z' q1 q2 q3 n3 : Int) (e1 : (k == 1) = true) (e2 : (k' == 1) = false) (H1 : Hid ((sub (max (sub q1 (hf k' x' x')) (min (add q1 (hf k' x' x')) p1)) p1) = 0)) (H2 : Hid ((sub (max (sub q2 (hf k' x' y')) (min (add q2 (hf k' x' y')) p2)) p2) = 0)) (H3 : Hid ((sub (max (sub q3 (hf k' x' z')) (min (add q3 (hf k' x' z')) p3)) p3) = n3)) (hz : ¬ n3 = 0) (hd : sub x (long 0 0 n3) ≤ 0) (w : World) : Calls Try.prog 77 #[.agg #[.int .i64 k, .int .i64 x, .int .i64 y, .int .i64 z], .agg #[.int .i64 p1, .int .i64 p2, .int .i64 p3], .agg #[.int .i64 k', .int .i64 x', .int .i64 y', .int .i64 z'], .agg #[.int .i64 q1, .int .i64 q2, .int .i64 q3]] w fun e w' => e = .returned (.tuple #[.agg #[.int .i64 0, .int .i64 0, .int .i64 0], .int .i64 0, .bool false]) ∧ Below w.heap.size w w' := by
  have hmc := more_cell
  have hmf := more_frozen
  have hml := more_lt
  go_enter Try.func77, Try.ntmps77
  go_wp2_with fail
  refine (raround_c _ _ _ _ _ _ _ _).mono ?_
  rintro e w1 ⟨rfl, hb1⟩
  have B1_0 : Blk w1 (w.heap.size) _ := Blk.below (by repeat (with_reducible (first | assumption | (apply Blk.at; simp; done) | apply Blk.alloc | apply Blk.drew | apply Blk.drewN | apply Blk.more | apply Blk.put | (apply Blk.far; focus (first | assumption | (apply Ne.symm; assumption) | (simp; done) | (simp <;> omega)))))) hb1
  obtain ⟨z1_0, c1_0, f1_0⟩ := id B1_0
  have B1_1 : Blk w1 (w.heap.size + 1) _ := Blk.below (by repeat (with_reducible (first | assumption | (apply Blk.at; simp; done) | apply Blk.alloc | apply Blk.drew | apply Blk.drewN | apply Blk.more | apply Blk.put | (apply Blk.far; focus (first | assumption | (apply Ne.symm; assumption) | (simp; done) | (simp <;> omega)))))) hb1
  obtain ⟨z1_1, c1_1, f1_1⟩ := id B1_1
  have B1_2 : Blk w1 (w.heap.size + 1 + 1) _ := Blk.below (by repeat (with_reducible (first | assumption | (apply Blk.at; simp; done) | apply Blk.alloc | apply Blk.drew | apply Blk.drewN | apply Blk.more | apply Blk.put | (apply Blk.far; focus (first | assumption | (apply Ne.symm; assumption) | (simp; done) | (simp <;> omega)))))) hb1
  obtain ⟨z1_2, c1_2, f1_2⟩ := id B1_2
  have B1_3 : Blk w1 (w.heap.size + 1 + 1 + 1) _ := Blk.below (by repeat (with_reducible (first | assumption | (apply Blk.at; simp; done) | apply Blk.alloc | apply Blk.drew | apply Blk.drewN | apply Blk.more | apply Blk.put | (apply Blk.far; focus (first | assumption | (apply Ne.symm; assumption) | (simp; done) | (simp <;> omega)))))) hb1
  obtain ⟨z1_3, c1_3, f1_3⟩ := id B1_3
  have B1_4 : Blk w1 (w.heap.size + 1 + 1 + 1 + 1) _ := Blk.below (by repeat (with_reducible (first | assumption | (apply Blk.at; simp; done) | apply Blk.alloc | apply Blk.drew | apply Blk.drewN | apply Blk.more | apply Blk.put | (apply Blk.far; focus (first | assumption | (apply Ne.symm; assumption) | (simp; done) | (simp <;> omega)))))) hb1
  obtain ⟨z1_4, c1_4, f1_4⟩ := id B1_4
  have B1_5 : Blk w1 (w.heap.size + 1 + 1 + 1 + 1 + 1) _ := Blk.below (by repeat (with_reducible (first | assumption | (apply Blk.at; simp; done) | apply Blk.alloc | apply Blk.drew | apply Blk.drewN | apply Blk.more | apply Blk.put | (apply Blk.far; focus (first | assumption | (apply Ne.symm; assumption) | (simp; done) | (simp <;> omega)))))) hb1
  obtain ⟨z1_5, c1_5, f1_5⟩ := id B1_5
  go_wp2_with fail
  refine wp_fresh ?_
  rintro w2 hb2
  have B2_0 : Blk w2 (w.heap.size) _ := Blk.below (by repeat (with_reducible (first | assumption | (apply Blk.at; simp; done) | apply Blk.alloc | apply Blk.drew | apply Blk.drewN | apply Blk.more | apply Blk.put | (apply Blk.far; focus (first | assumption | (apply Ne.symm; assumption) | (simp; done) | (simp <;> omega)))))) hb2
  obtain ⟨z2_0, c2_0, f2_0⟩ := id B2_0
  have B2_1 : Blk w2 (w.heap.size + 1) _ := Blk.below (by repeat (with_reducible (first | assumption | (apply Blk.at; simp; done) | apply Blk.alloc | apply Blk.drew | apply Blk.drewN | apply Blk.more | apply Blk.put | (apply Blk.far; focus (first | assumption | (apply Ne.symm; assumption) | (simp; done) | (simp <;> omega)))))) hb2
  obtain ⟨z2_1, c2_1, f2_1⟩ := id B2_1
  have B2_2 : Blk w2 (w.heap.size + 1 + 1) _ := Blk.below (by repeat (with_reducible (first | assumption | (apply Blk.at; simp; done) | apply Blk.alloc | apply Blk.drew | apply Blk.drewN | apply Blk.more | apply Blk.put | (apply Blk.far; focus (first | assumption | (apply Ne.symm; assumption) | (simp; done) | (simp <;> omega)))))) hb2
  obtain ⟨z2_2, c2_2, f2_2⟩ := id B2_2
  have B2_3 : Blk w2 (w.heap.size + 1 + 1 + 1) _ := Blk.below (by repeat (with_reducible (first | assumption | (apply Blk.at; simp; done) | apply Blk.alloc | apply Blk.drew | apply Blk.drewN | apply Blk.more | apply Blk.put | (apply Blk.far; focus (first | assumption | (apply Ne.symm; assumption) | (simp; done) | (simp <;> omega)))))) hb2
  obtain ⟨z2_3, c2_3, f2_3⟩ := id B2_3
  have B2_4 : Blk w2 (w.heap.size + 1 + 1 + 1 + 1) _ := Blk.below (by repeat (with_reducible (first | assumption | (apply Blk.at; simp; done) | apply Blk.alloc | apply Blk.drew | apply Blk.drewN | apply Blk.more | apply Blk.put | (apply Blk.far; focus (first | assumption | (apply Ne.symm; assumption) | (simp; done) | (simp <;> omega)))))) hb2
  obtain ⟨z2_4, c2_4, f2_4⟩ := id B2_4
  have B2_5 : Blk w2 (w.heap.size + 1 + 1 + 1 + 1 + 1) _ := Blk.below (by repeat (with_reducible (first | assumption | (apply Blk.at; simp; done) | apply Blk.alloc | apply Blk.drew | apply Blk.drewN | apply Blk.more | apply Blk.put | (apply Blk.far; focus (first | assumption | (apply Ne.symm; assumption) | (simp; done) | (simp <;> omega)))))) hb2
  obtain ⟨z2_5, c2_5, f2_5⟩ := id B2_5
  have B2_6 : Blk w2 (w1.heap.size) _ := Blk.below (by repeat (with_reducible (first | assumption | (apply Blk.at; simp; done) | apply Blk.alloc | apply Blk.drew | apply Blk.drewN | apply Blk.more | apply Blk.put | (apply Blk.far; focus (first | assumption | (apply Ne.symm; assumption) | (simp; done) | (simp <;> omega)))))) hb2
  try simp only [List.setIfInBounds_toArray, List.set_cons_zero, List.set_cons_succ] at B2_6
  obtain ⟨z2_6, c2_6, f2_6⟩ := id B2_6
  refine region_grow (A := ?A3) 5 [15] (fun _ => #[.int .i64 0, .int .i64 0, .int .i64 0]) (by kernel_rfl) (by kernel_rfl) ?hrun3 ?hq3 ?htail3
  case hq3 =>
    intro w0 hb0
    simp only [List.take_succ_cons, List.take_zero]
    have B0_0 : Blk w0 _ _ := B2_0.below hb0
    obtain ⟨z0_0, c0_0, f0_0⟩ := id B0_0
    have B0_1 : Blk w0 _ _ := B2_1.below hb0
    obtain ⟨z0_1, c0_1, f0_1⟩ := id B0_1
    have B0_2 : Blk w0 _ _ := B2_2.below hb0
    obtain ⟨z0_2, c0_2, f0_2⟩ := id B0_2
    have B0_3 : Blk w0 _ _ := B2_3.below hb0
    obtain ⟨z0_3, c0_3, f0_3⟩ := id B0_3
    have B0_4 : Blk w0 _ _ := B2_4.below hb0
    obtain ⟨z0_4, c0_4, f0_4⟩ := id B0_4
    have B0_5 : Blk w0 _ _ := B2_5.below hb0
    obtain ⟨z0_5, c0_5, f0_5⟩ := id B0_5
    have B0_6 : Blk w0 _ _ := B2_6.below hb0
    obtain ⟨z0_6, c0_6, f0_6⟩ := id B0_6
    repeat (go_big_quiet_step ((first | (go_at_call 28; exact calls_after (rnear_c _ _ _ _ _ _ _ _ _ _)) | (go_at_call 61; exact calls_after (rminus_c _ _ _ _ _ _ _)))))
    refine wpQuiet_nil ?_
    rfl
  case hrun3 =>
    intro j hj
    match j, hj with
    | 0, _ => exact ⟨_, _, rfl, fun a w => by simp [go_sem]; rfl⟩
  case htail3 =>
    intro gs w3 hb3 hblk hne
    obtain ⟨G3_0, hg3_0⟩ := hblk 0 (by decide)
    simp only [List.drop_succ_cons, List.drop_zero, List.length_cons, List.length_nil, laySlots]
    clear hblk hne
    generalize gs 0 = g3_0 at *
    have B3_0 : Blk w3 _ _ := B2_0.below hb3
    obtain ⟨z3_0, c3_0, f3_0⟩ := id B3_0
    have B3_1 : Blk w3 _ _ := B2_1.below hb3
    obtain ⟨z3_1, c3_1, f3_1⟩ := id B3_1
    have B3_2 : Blk w3 _ _ := B2_2.below hb3
    obtain ⟨z3_2, c3_2, f3_2⟩ := id B3_2
    have B3_3 : Blk w3 _ _ := B2_3.below hb3
    obtain ⟨z3_3, c3_3, f3_3⟩ := id B3_3
    have B3_4 : Blk w3 _ _ := B2_4.below hb3
    obtain ⟨z3_4, c3_4, f3_4⟩ := id B3_4
    have B3_5 : Blk w3 _ _ := B2_5.below hb3
    obtain ⟨z3_5, c3_5, f3_5⟩ := id B3_5
    have B3_6 : Blk w3 _ _ := B2_6.below hb3
    obtain ⟨z3_6, c3_6, f3_6⟩ := id B3_6
    obtain ⟨zg3_0, cg3_0, fg3_0⟩ := id G3_0
    have ne3_0_0 : g3_0 ≠ w.heap.size := by omega
    have ne3_0_1 : g3_0 ≠ w.heap.size + 1 := by omega
    have ne3_0_2 : g3_0 ≠ w.heap.size + 1 + 1 := by omega
    have ne3_0_3 : g3_0 ≠ w.heap.size + 1 + 1 + 1 := by omega
    have ne3_0_4 : g3_0 ≠ w.heap.size + 1 + 1 + 1 + 1 := by omega
    have ne3_0_5 : g3_0 ≠ w.heap.size + 1 + 1 + 1 + 1 + 1 := by omega
    have ne3_0_6 : g3_0 ≠ w1.heap.size := by omega
    simp only [H1.out, H2.out, H3.out]
    go_wp2_with fail
    refine wp_fresh ?_
    rintro w4 hb4
    have B4_0 : Blk w4 (w.heap.size) _ := Blk.below (by repeat (with_reducible (first | assumption | (apply Blk.at; simp; done) | apply Blk.alloc | apply Blk.drew | apply Blk.drewN | apply Blk.more | apply Blk.put | (apply Blk.far; focus (first | assumption | (apply Ne.symm; assumption) | (simp; done) | (simp <;> omega)))))) hb4
    obtain ⟨z4_0, c4_0, f4_0⟩ := id B4_0
    have B4_1 : Blk w4 (w.heap.size + 1) _ := Blk.below (by repeat (with_reducible (first | assumption | (apply Blk.at; simp; done) | apply Blk.alloc | apply Blk.drew | apply Blk.drewN | apply Blk.more | apply Blk.put | (apply Blk.far; focus (first | assumption | (apply Ne.symm; assumption) | (simp; done) | (simp <;> omega)))))) hb4
    obtain ⟨z4_1, c4_1, f4_1⟩ := id B4_1
    have B4_2 : Blk w4 (w.heap.size + 1 + 1) _ := Blk.below (by repeat (with_reducible (first | assumption | (apply Blk.at; simp; done) | apply Blk.alloc | apply Blk.drew | apply Blk.drewN | apply Blk.more | apply Blk.put | (apply Blk.far; focus (first | assumption | (apply Ne.symm; assumption) | (simp; done) | (simp <;> omega)))))) hb4
    obtain ⟨z4_2, c4_2, f4_2⟩ := id B4_2
    have B4_3 : Blk w4 (w.heap.size + 1 + 1 + 1) _ := Blk.below (by repeat (with_reducible (first | assumption | (apply Blk.at; simp; done) | apply Blk.alloc | apply Blk.drew | apply Blk.drewN | apply Blk.more | apply Blk.put | (apply Blk.far; focus (first | assumption | (apply Ne.symm; assumption) | (simp; done) | (simp <;> omega)))))) hb4
    obtain ⟨z4_3, c4_3, f4_3⟩ := id B4_3
    have B4_4 : Blk w4 (w.heap.size + 1 + 1 + 1 + 1) _ := Blk.below (by repeat (with_reducible (first | assumption | (apply Blk.at; simp; done) | apply Blk.alloc | apply Blk.drew | apply Blk.drewN | apply Blk.more | apply Blk.put | (apply Blk.far; focus (first | assumption | (apply Ne.symm; assumption) | (simp; done) | (simp <;> omega)))))) hb4
    obtain ⟨z4_4, c4_4, f4_4⟩ := id B4_4
    have B4_5 : Blk w4 (w.heap.size + 1 + 1 + 1 + 1 + 1) _ := Blk.below (by repeat (with_reducible (first | assumption | (apply Blk.at; simp; done) | apply Blk.alloc | apply Blk.drew | apply Blk.drewN | apply Blk.more | apply Blk.put | (apply Blk.far; focus (first | assumption | (apply Ne.symm; assumption) | (simp; done) | (simp <;> omega)))))) hb4
    obtain ⟨z4_5, c4_5, f4_5⟩ := id B4_5
    have B4_6 : Blk w4 (w1.heap.size) _ := Blk.below (by repeat (with_reducible (first | assumption | (apply Blk.at; simp; done) | apply Blk.alloc | apply Blk.drew | apply Blk.drewN | apply Blk.more | apply Blk.put | (apply Blk.far; focus (first | assumption | (apply Ne.symm; assumption) | (simp; done) | (simp <;> omega)))))) hb4
    obtain ⟨z4_6, c4_6, f4_6⟩ := id B4_6
    have B4_7 : Blk w4 (g3_0) _ := Blk.below (by repeat (with_reducible (first | assumption | (apply Blk.at; simp; done) | apply Blk.alloc | apply Blk.drew | apply Blk.drewN | apply Blk.more | apply Blk.put | (apply Blk.far; focus (first | assumption | (apply Ne.symm; assumption) | (simp; done) | (simp <;> omega)))))) hb4
    try simp only [List.setIfInBounds_toArray, List.set_cons_zero, List.set_cons_succ] at B4_7
    obtain ⟨z4_7, c4_7, f4_7⟩ := id B4_7
    refine region_quiet_but 8 (by kernel_rfl) (by kernel_rfl) ?_
    simp only [List.take_succ_cons, List.take_zero, List.drop_succ_cons, List.drop_zero]
    repeat (go_big_quiet_step (first | (go_at_call 69; exact calls_after (runit_c _ _ _ _)) | (go_at_call 67; exact calls_after (rlong_c _ _ _ _)) | (go_at_call 53; exact calls_after_same (rsub_c _ _ _))))
    refine wpQuiet_nil ?_
    rintro w5 hw5
    have hb5 := after_below hw5
    clear hw5
    have B5_0 : Blk w5 (w.heap.size) _ := Blk.below (by repeat (with_reducible (first | assumption | (apply Blk.at; simp; done) | apply Blk.alloc | apply Blk.drew | apply Blk.drewN | apply Blk.more | apply Blk.put | (apply Blk.far; focus (first | assumption | (apply Ne.symm; assumption) | (simp; done) | (simp <;> omega)))))) hb5
    obtain ⟨z5_0, c5_0, f5_0⟩ := id B5_0
    have B5_1 : Blk w5 (w.heap.size + 1) _ := Blk.below (by repeat (with_reducible (first | assumption | (apply Blk.at; simp; done) | apply Blk.alloc | apply Blk.drew | apply Blk.drewN | apply Blk.more | apply Blk.put | (apply Blk.far; focus (first | assumption | (apply Ne.symm; assumption) | (simp; done) | (simp <;> omega)))))) hb5
    obtain ⟨z5_1, c5_1, f5_1⟩ := id B5_1
    have B5_2 : Blk w5 (w.heap.size + 1 + 1) _ := Blk.below (by repeat (with_reducible (first | assumption | (apply Blk.at; simp; done) | apply Blk.alloc | apply Blk.drew | apply Blk.drewN | apply Blk.more | apply Blk.put | (apply Blk.far; focus (first | assumption | (apply Ne.symm; assumption) | (simp; done) | (simp <;> omega)))))) hb5
    obtain ⟨z5_2, c5_2, f5_2⟩ := id B5_2
    have B5_3 : Blk w5 (w.heap.size + 1 + 1 + 1) _ := Blk.below (by repeat (with_reducible (first | assumption | (apply Blk.at; simp; done) | apply Blk.alloc | apply Blk.drew | apply Blk.drewN | apply Blk.more | apply Blk.put | (apply Blk.far; focus (first | assumption | (apply Ne.symm; assumption) | (simp; done) | (simp <;> omega)))))) hb5
    obtain ⟨z5_3, c5_3, f5_3⟩ := id B5_3
    have B5_4 : Blk w5 (w.heap.size + 1 + 1 + 1 + 1) _ := Blk.below (by repeat (with_reducible (first | assumption | (apply Blk.at; simp; done) | apply Blk.alloc | apply Blk.drew | apply Blk.drewN | apply Blk.more | apply Blk.put | (apply Blk.far; focus (first | assumption | (apply Ne.symm; assumption) | (simp; done) | (simp <;> omega)))))) hb5
    obtain ⟨z5_4, c5_4, f5_4⟩ := id B5_4
    have B5_5 : Blk w5 (w.heap.size + 1 + 1 + 1 + 1 + 1) _ := Blk.below (by repeat (with_reducible (first | assumption | (apply Blk.at; simp; done) | apply Blk.alloc | apply Blk.drew | apply Blk.drewN | apply Blk.more | apply Blk.put | (apply Blk.far; focus (first | assumption | (apply Ne.symm; assumption) | (simp; done) | (simp <;> omega)))))) hb5
    obtain ⟨z5_5, c5_5, f5_5⟩ := id B5_5
    have B5_6 : Blk w5 (w1.heap.size) _ := Blk.below (by repeat (with_reducible (first | assumption | (apply Blk.at; simp; done) | apply Blk.alloc | apply Blk.drew | apply Blk.drewN | apply Blk.more | apply Blk.put | (apply Blk.far; focus (first | assumption | (apply Ne.symm; assumption) | (simp; done) | (simp <;> omega)))))) hb5
    obtain ⟨z5_6, c5_6, f5_6⟩ := id B5_6
    have B5_7 : Blk w5 (g3_0) _ := Blk.below (by repeat (with_reducible (first | assumption | (apply Blk.at; simp; done) | apply Blk.alloc | apply Blk.drew | apply Blk.drewN | apply Blk.more | apply Blk.put | (apply Blk.far; focus (first | assumption | (apply Ne.symm; assumption) | (simp; done) | (simp <;> omega)))))) hb5
    obtain ⟨z5_7, c5_7, f5_7⟩ := id B5_7
    go_wp2
    exact bodyPost_ret (v := .tuple #[.agg #[.int .i64 0, .int .i64 0, .int .i64 0], .int .i64 0, .bool false]) (by simp [results, Try.results77, go_sem, *]) rfl ⟨rfl, (by repeat (with_reducible (first | exact Below.refl _ _ | assumption | apply ext_drew | apply ext_drewN | apply ext_alloc | apply ext_more | (refine ext_setCell ?_ (by simp <;> omega) _) | (refine ext_below ?_ (by assumption)))))⟩

set_option maxHeartbeats 4000000 in
theorem rt_ba21 (k x y z p1 p2 p3 k' x' y' z' q1 q2 q3 n3 : Int) (e1 : (k == 1) = true) (e2 : (k' == 1) = false) (H1 : Hid ((sub (max (sub q1 (hf k' x' x')) (min (add q1 (hf k' x' x')) p1)) p1) = 0)) (H2 : Hid ((sub (max (sub q2 (hf k' x' y')) (min (add q2 (hf k' x' y')) p2)) p2) = 0)) (H3 : Hid ((sub (max (sub q3 (hf k' x' z')) (min (add q3 (hf k' x' z')) p3)) p3) = n3)) (hz : ¬ n3 = 0) (hd : 0 < sub x (long 0 0 n3)) (w : World) : Calls Try.prog 77 #[.agg #[.int .i64 k, .int .i64 x, .int .i64 y, .int .i64 z], .agg #[.int .i64 p1, .int .i64 p2, .int .i64 p3], .agg #[.int .i64 k', .int .i64 x', .int .i64 y', .int .i64 z'], .agg #[.int .i64 q1, .int .i64 q2, .int .i64 q3]] w fun e w' => e = .returned (.tuple #[.agg #[.int .i64 (unit1 0 0 n3), .int .i64 (unit2 0 0 n3), .int .i64 (unit3 0 0 n3)], .int .i64 (sub x (long 0 0 n3)), .bool true]) ∧ Below w.heap.size w w' := by
  have hmc := more_cell
  have hmf := more_frozen
  have hml := more_lt
  go_enter Try.func77, Try.ntmps77
  go_wp2_with fail
  refine (raround_c _ _ _ _ _ _ _ _).mono ?_
  rintro e w1 ⟨rfl, hb1⟩
  have B1_0 : Blk w1 (w.heap.size) _ := Blk.below (by repeat (with_reducible (first | assumption | (apply Blk.at; simp; done) | apply Blk.alloc | apply Blk.drew | apply Blk.drewN | apply Blk.more | apply Blk.put | (apply Blk.far; focus (first | assumption | (apply Ne.symm; assumption) | (simp; done) | (simp <;> omega)))))) hb1
  obtain ⟨z1_0, c1_0, f1_0⟩ := id B1_0
  have B1_1 : Blk w1 (w.heap.size + 1) _ := Blk.below (by repeat (with_reducible (first | assumption | (apply Blk.at; simp; done) | apply Blk.alloc | apply Blk.drew | apply Blk.drewN | apply Blk.more | apply Blk.put | (apply Blk.far; focus (first | assumption | (apply Ne.symm; assumption) | (simp; done) | (simp <;> omega)))))) hb1
  obtain ⟨z1_1, c1_1, f1_1⟩ := id B1_1
  have B1_2 : Blk w1 (w.heap.size + 1 + 1) _ := Blk.below (by repeat (with_reducible (first | assumption | (apply Blk.at; simp; done) | apply Blk.alloc | apply Blk.drew | apply Blk.drewN | apply Blk.more | apply Blk.put | (apply Blk.far; focus (first | assumption | (apply Ne.symm; assumption) | (simp; done) | (simp <;> omega)))))) hb1
  obtain ⟨z1_2, c1_2, f1_2⟩ := id B1_2
  have B1_3 : Blk w1 (w.heap.size + 1 + 1 + 1) _ := Blk.below (by repeat (with_reducible (first | assumption | (apply Blk.at; simp; done) | apply Blk.alloc | apply Blk.drew | apply Blk.drewN | apply Blk.more | apply Blk.put | (apply Blk.far; focus (first | assumption | (apply Ne.symm; assumption) | (simp; done) | (simp <;> omega)))))) hb1
  obtain ⟨z1_3, c1_3, f1_3⟩ := id B1_3
  have B1_4 : Blk w1 (w.heap.size + 1 + 1 + 1 + 1) _ := Blk.below (by repeat (with_reducible (first | assumption | (apply Blk.at; simp; done) | apply Blk.alloc | apply Blk.drew | apply Blk.drewN | apply Blk.more | apply Blk.put | (apply Blk.far; focus (first | assumption | (apply Ne.symm; assumption) | (simp; done) | (simp <;> omega)))))) hb1
  obtain ⟨z1_4, c1_4, f1_4⟩ := id B1_4
  have B1_5 : Blk w1 (w.heap.size + 1 + 1 + 1 + 1 + 1) _ := Blk.below (by repeat (with_reducible (first | assumption | (apply Blk.at; simp; done) | apply Blk.alloc | apply Blk.drew | apply Blk.drewN | apply Blk.more | apply Blk.put | (apply Blk.far; focus (first | assumption | (apply Ne.symm; assumption) | (simp; done) | (simp <;> omega)))))) hb1
  obtain ⟨z1_5, c1_5, f1_5⟩ := id B1_5
  go_wp2_with fail
  refine wp_fresh ?_
  rintro w2 hb2
  have B2_0 : Blk w2 (w.heap.size) _ := Blk.below (by repeat (with_reducible (first | assumption | (apply Blk.at; simp; done) | apply Blk.alloc | apply Blk.drew | apply Blk.drewN | apply Blk.more | apply Blk.put | (apply Blk.far; focus (first | assumption | (apply Ne.symm; assumption) | (simp; done) | (simp <;> omega)))))) hb2
  obtain ⟨z2_0, c2_0, f2_0⟩ := id B2_0
  have B2_1 : Blk w2 (w.heap.size + 1) _ := Blk.below (by repeat (with_reducible (first | assumption | (apply Blk.at; simp; done) | apply Blk.alloc | apply Blk.drew | apply Blk.drewN | apply Blk.more | apply Blk.put | (apply Blk.far; focus (first | assumption | (apply Ne.symm; assumption) | (simp; done) | (simp <;> omega)))))) hb2
  obtain ⟨z2_1, c2_1, f2_1⟩ := id B2_1
  have B2_2 : Blk w2 (w.heap.size + 1 + 1) _ := Blk.below (by repeat (with_reducible (first | assumption | (apply Blk.at; simp; done) | apply Blk.alloc | apply Blk.drew | apply Blk.drewN | apply Blk.more | apply Blk.put | (apply Blk.far; focus (first | assumption | (apply Ne.symm; assumption) | (simp; done) | (simp <;> omega)))))) hb2
  obtain ⟨z2_2, c2_2, f2_2⟩ := id B2_2
  have B2_3 : Blk w2 (w.heap.size + 1 + 1 + 1) _ := Blk.below (by repeat (with_reducible (first | assumption | (apply Blk.at; simp; done) | apply Blk.alloc | apply Blk.drew | apply Blk.drewN | apply Blk.more | apply Blk.put | (apply Blk.far; focus (first | assumption | (apply Ne.symm; assumption) | (simp; done) | (simp <;> omega)))))) hb2
  obtain ⟨z2_3, c2_3, f2_3⟩ := id B2_3
  have B2_4 : Blk w2 (w.heap.size + 1 + 1 + 1 + 1) _ := Blk.below (by repeat (with_reducible (first | assumption | (apply Blk.at; simp; done) | apply Blk.alloc | apply Blk.drew | apply Blk.drewN | apply Blk.more | apply Blk.put | (apply Blk.far; focus (first | assumption | (apply Ne.symm; assumption) | (simp; done) | (simp <;> omega)))))) hb2
  obtain ⟨z2_4, c2_4, f2_4⟩ := id B2_4
  have B2_5 : Blk w2 (w.heap.size + 1 + 1 + 1 + 1 + 1) _ := Blk.below (by repeat (with_reducible (first | assumption | (apply Blk.at; simp; done) | apply Blk.alloc | apply Blk.drew | apply Blk.drewN | apply Blk.more | apply Blk.put | (apply Blk.far; focus (first | assumption | (apply Ne.symm; assumption) | (simp; done) | (simp <;> omega)))))) hb2
  obtain ⟨z2_5, c2_5, f2_5⟩ := id B2_5
  have B2_6 : Blk w2 (w1.heap.size) _ := Blk.below (by repeat (with_reducible (first | assumption | (apply Blk.at; simp; done) | apply Blk.alloc | apply Blk.drew | apply Blk.drewN | apply Blk.more | apply Blk.put | (apply Blk.far; focus (first | assumption | (apply Ne.symm; assumption) | (simp; done) | (simp <;> omega)))))) hb2
  try simp only [List.setIfInBounds_toArray, List.set_cons_zero, List.set_cons_succ] at B2_6
  obtain ⟨z2_6, c2_6, f2_6⟩ := id B2_6
  refine region_grow (A := ?A3) 5 [15] (fun _ => #[.int .i64 0, .int .i64 0, .int .i64 0]) (by kernel_rfl) (by kernel_rfl) ?hrun3 ?hq3 ?htail3
  case hq3 =>
    intro w0 hb0
    simp only [List.take_succ_cons, List.take_zero]
    have B0_0 : Blk w0 _ _ := B2_0.below hb0
    obtain ⟨z0_0, c0_0, f0_0⟩ := id B0_0
    have B0_1 : Blk w0 _ _ := B2_1.below hb0
    obtain ⟨z0_1, c0_1, f0_1⟩ := id B0_1
    have B0_2 : Blk w0 _ _ := B2_2.below hb0
    obtain ⟨z0_2, c0_2, f0_2⟩ := id B0_2
    have B0_3 : Blk w0 _ _ := B2_3.below hb0
    obtain ⟨z0_3, c0_3, f0_3⟩ := id B0_3
    have B0_4 : Blk w0 _ _ := B2_4.below hb0
    obtain ⟨z0_4, c0_4, f0_4⟩ := id B0_4
    have B0_5 : Blk w0 _ _ := B2_5.below hb0
    obtain ⟨z0_5, c0_5, f0_5⟩ := id B0_5
    have B0_6 : Blk w0 _ _ := B2_6.below hb0
    obtain ⟨z0_6, c0_6, f0_6⟩ := id B0_6
    repeat (go_big_quiet_step ((first | (go_at_call 28; exact calls_after (rnear_c _ _ _ _ _ _ _ _ _ _)) | (go_at_call 61; exact calls_after (rminus_c _ _ _ _ _ _ _)))))
    refine wpQuiet_nil ?_
    rfl
  case hrun3 =>
    intro j hj
    match j, hj with
    | 0, _ => exact ⟨_, _, rfl, fun a w => by simp [go_sem]; rfl⟩
  case htail3 =>
    intro gs w3 hb3 hblk hne
    obtain ⟨G3_0, hg3_0⟩ := hblk 0 (by decide)
    simp only [List.drop_succ_cons, List.drop_zero, List.length_cons, List.length_nil, laySlots]
    clear hblk hne
    generalize gs 0 = g3_0 at *
    have B3_0 : Blk w3 _ _ := B2_0.below hb3
    obtain ⟨z3_0, c3_0, f3_0⟩ := id B3_0
    have B3_1 : Blk w3 _ _ := B2_1.below hb3
    obtain ⟨z3_1, c3_1, f3_1⟩ := id B3_1
    have B3_2 : Blk w3 _ _ := B2_2.below hb3
    obtain ⟨z3_2, c3_2, f3_2⟩ := id B3_2
    have B3_3 : Blk w3 _ _ := B2_3.below hb3
    obtain ⟨z3_3, c3_3, f3_3⟩ := id B3_3
    have B3_4 : Blk w3 _ _ := B2_4.below hb3
    obtain ⟨z3_4, c3_4, f3_4⟩ := id B3_4
    have B3_5 : Blk w3 _ _ := B2_5.below hb3
    obtain ⟨z3_5, c3_5, f3_5⟩ := id B3_5
    have B3_6 : Blk w3 _ _ := B2_6.below hb3
    obtain ⟨z3_6, c3_6, f3_6⟩ := id B3_6
    obtain ⟨zg3_0, cg3_0, fg3_0⟩ := id G3_0
    have ne3_0_0 : g3_0 ≠ w.heap.size := by omega
    have ne3_0_1 : g3_0 ≠ w.heap.size + 1 := by omega
    have ne3_0_2 : g3_0 ≠ w.heap.size + 1 + 1 := by omega
    have ne3_0_3 : g3_0 ≠ w.heap.size + 1 + 1 + 1 := by omega
    have ne3_0_4 : g3_0 ≠ w.heap.size + 1 + 1 + 1 + 1 := by omega
    have ne3_0_5 : g3_0 ≠ w.heap.size + 1 + 1 + 1 + 1 + 1 := by omega
    have ne3_0_6 : g3_0 ≠ w1.heap.size := by omega
    simp only [H1.out, H2.out, H3.out]
    go_wp2_with fail
    refine wp_fresh ?_
    rintro w4 hb4
    have B4_0 : Blk w4 (w.heap.size) _ := Blk.below (by repeat (with_reducible (first | assumption | (apply Blk.at; simp; done) | apply Blk.alloc | apply Blk.drew | apply Blk.drewN | apply Blk.more | apply Blk.put | (apply Blk.far; focus (first | assumption | (apply Ne.symm; assumption) | (simp; done) | (simp <;> omega)))))) hb4
    obtain ⟨z4_0, c4_0, f4_0⟩ := id B4_0
    have B4_1 : Blk w4 (w.heap.size + 1) _ := Blk.below (by repeat (with_reducible (first | assumption | (apply Blk.at; simp; done) | apply Blk.alloc | apply Blk.drew | apply Blk.drewN | apply Blk.more | apply Blk.put | (apply Blk.far; focus (first | assumption | (apply Ne.symm; assumption) | (simp; done) | (simp <;> omega)))))) hb4
    obtain ⟨z4_1, c4_1, f4_1⟩ := id B4_1
    have B4_2 : Blk w4 (w.heap.size + 1 + 1) _ := Blk.below (by repeat (with_reducible (first | assumption | (apply Blk.at; simp; done) | apply Blk.alloc | apply Blk.drew | apply Blk.drewN | apply Blk.more | apply Blk.put | (apply Blk.far; focus (first | assumption | (apply Ne.symm; assumption) | (simp; done) | (simp <;> omega)))))) hb4
    obtain ⟨z4_2, c4_2, f4_2⟩ := id B4_2
    have B4_3 : Blk w4 (w.heap.size + 1 + 1 + 1) _ := Blk.below (by repeat (with_reducible (first | assumption | (apply Blk.at; simp; done) | apply Blk.alloc | apply Blk.drew | apply Blk.drewN | apply Blk.more | apply Blk.put | (apply Blk.far; focus (first | assumption | (apply Ne.symm; assumption) | (simp; done) | (simp <;> omega)))))) hb4
    obtain ⟨z4_3, c4_3, f4_3⟩ := id B4_3
    have B4_4 : Blk w4 (w.heap.size + 1 + 1 + 1 + 1) _ := Blk.below (by repeat (with_reducible (first | assumption | (apply Blk.at; simp; done) | apply Blk.alloc | apply Blk.drew | apply Blk.drewN | apply Blk.more | apply Blk.put | (apply Blk.far; focus (first | assumption | (apply Ne.symm; assumption) | (simp; done) | (simp <;> omega)))))) hb4
    obtain ⟨z4_4, c4_4, f4_4⟩ := id B4_4
    have B4_5 : Blk w4 (w.heap.size + 1 + 1 + 1 + 1 + 1) _ := Blk.below (by repeat (with_reducible (first | assumption | (apply Blk.at; simp; done) | apply Blk.alloc | apply Blk.drew | apply Blk.drewN | apply Blk.more | apply Blk.put | (apply Blk.far; focus (first | assumption | (apply Ne.symm; assumption) | (simp; done) | (simp <;> omega)))))) hb4
    obtain ⟨z4_5, c4_5, f4_5⟩ := id B4_5
    have B4_6 : Blk w4 (w1.heap.size) _ := Blk.below (by repeat (with_reducible (first | assumption | (apply Blk.at; simp; done) | apply Blk.alloc | apply Blk.drew | apply Blk.drewN | apply Blk.more | apply Blk.put | (apply Blk.far; focus (first | assumption | (apply Ne.symm; assumption) | (simp; done) | (simp <;> omega)))))) hb4
    obtain ⟨z4_6, c4_6, f4_6⟩ := id B4_6
    have B4_7 : Blk w4 (g3_0) _ := Blk.below (by repeat (with_reducible (first | assumption | (apply Blk.at; simp; done) | apply Blk.alloc | apply Blk.drew | apply Blk.drewN | apply Blk.more | apply Blk.put | (apply Blk.far; focus (first | assumption | (apply Ne.symm; assumption) | (simp; done) | (simp <;> omega)))))) hb4
    try simp only [List.setIfInBounds_toArray, List.set_cons_zero, List.set_cons_succ] at B4_7
    obtain ⟨z4_7, c4_7, f4_7⟩ := id B4_7
    refine region_quiet_but 8 (by kernel_rfl) (by kernel_rfl) ?_
    simp only [List.take_succ_cons, List.take_zero, List.drop_succ_cons, List.drop_zero]
    repeat (go_big_quiet_step (first | (go_at_call 69; exact calls_after (runit_c _ _ _ _)) | (go_at_call 67; exact calls_after (rlong_c _ _ _ _)) | (go_at_call 53; exact calls_after_same (rsub_c _ _ _))))
    refine wpQuiet_nil ?_
    rintro w5 hw5
    have hb5 := after_below hw5
    clear hw5
    have B5_0 : Blk w5 (w.heap.size) _ := Blk.below (by repeat (with_reducible (first | assumption | (apply Blk.at; simp; done) | apply Blk.alloc | apply Blk.drew | apply Blk.drewN | apply Blk.more | apply Blk.put | (apply Blk.far; focus (first | assumption | (apply Ne.symm; assumption) | (simp; done) | (simp <;> omega)))))) hb5
    obtain ⟨z5_0, c5_0, f5_0⟩ := id B5_0
    have B5_1 : Blk w5 (w.heap.size + 1) _ := Blk.below (by repeat (with_reducible (first | assumption | (apply Blk.at; simp; done) | apply Blk.alloc | apply Blk.drew | apply Blk.drewN | apply Blk.more | apply Blk.put | (apply Blk.far; focus (first | assumption | (apply Ne.symm; assumption) | (simp; done) | (simp <;> omega)))))) hb5
    obtain ⟨z5_1, c5_1, f5_1⟩ := id B5_1
    have B5_2 : Blk w5 (w.heap.size + 1 + 1) _ := Blk.below (by repeat (with_reducible (first | assumption | (apply Blk.at; simp; done) | apply Blk.alloc | apply Blk.drew | apply Blk.drewN | apply Blk.more | apply Blk.put | (apply Blk.far; focus (first | assumption | (apply Ne.symm; assumption) | (simp; done) | (simp <;> omega)))))) hb5
    obtain ⟨z5_2, c5_2, f5_2⟩ := id B5_2
    have B5_3 : Blk w5 (w.heap.size + 1 + 1 + 1) _ := Blk.below (by repeat (with_reducible (first | assumption | (apply Blk.at; simp; done) | apply Blk.alloc | apply Blk.drew | apply Blk.drewN | apply Blk.more | apply Blk.put | (apply Blk.far; focus (first | assumption | (apply Ne.symm; assumption) | (simp; done) | (simp <;> omega)))))) hb5
    obtain ⟨z5_3, c5_3, f5_3⟩ := id B5_3
    have B5_4 : Blk w5 (w.heap.size + 1 + 1 + 1 + 1) _ := Blk.below (by repeat (with_reducible (first | assumption | (apply Blk.at; simp; done) | apply Blk.alloc | apply Blk.drew | apply Blk.drewN | apply Blk.more | apply Blk.put | (apply Blk.far; focus (first | assumption | (apply Ne.symm; assumption) | (simp; done) | (simp <;> omega)))))) hb5
    obtain ⟨z5_4, c5_4, f5_4⟩ := id B5_4
    have B5_5 : Blk w5 (w.heap.size + 1 + 1 + 1 + 1 + 1) _ := Blk.below (by repeat (with_reducible (first | assumption | (apply Blk.at; simp; done) | apply Blk.alloc | apply Blk.drew | apply Blk.drewN | apply Blk.more | apply Blk.put | (apply Blk.far; focus (first | assumption | (apply Ne.symm; assumption) | (simp; done) | (simp <;> omega)))))) hb5
    obtain ⟨z5_5, c5_5, f5_5⟩ := id B5_5
    have B5_6 : Blk w5 (w1.heap.size) _ := Blk.below (by repeat (with_reducible (first | assumption | (apply Blk.at; simp; done) | apply Blk.alloc | apply Blk.drew | apply Blk.drewN | apply Blk.more | apply Blk.put | (apply Blk.far; focus (first | assumption | (apply Ne.symm; assumption) | (simp; done) | (simp <;> omega)))))) hb5
    obtain ⟨z5_6, c5_6, f5_6⟩ := id B5_6
    have B5_7 : Blk w5 (g3_0) _ := Blk.below (by repeat (with_reducible (first | assumption | (apply Blk.at; simp; done) | apply Blk.alloc | apply Blk.drew | apply Blk.drewN | apply Blk.more | apply Blk.put | (apply Blk.far; focus (first | assumption | (apply Ne.symm; assumption) | (simp; done) | (simp <;> omega)))))) hb5
    obtain ⟨z5_7, c5_7, f5_7⟩ := id B5_7
    go_wp2
    exact bodyPost_ret (v := .tuple #[.agg #[.int .i64 (unit1 0 0 n3), .int .i64 (unit2 0 0 n3), .int .i64 (unit3 0 0 n3)], .int .i64 (sub x (long 0 0 n3)), .bool true]) (by simp [results, Try.results77, go_sem, *]) rfl ⟨rfl, (by repeat (with_reducible (first | exact Below.refl _ _ | assumption | apply ext_drew | apply ext_drewN | apply ext_alloc | apply ext_more | (refine ext_setCell ?_ (by simp <;> omega) _) | (refine ext_below ?_ (by assumption)))))⟩

set_option maxHeartbeats 4000000 in
theorem rt_ba3 (k x y z p1 p2 p3 k' x' y' z' q1 q2 q3  : Int) (e1 : (k == 1) = true) (e2 : (k' == 1) = false) (H1 : Hid ((sub (max (sub q1 (hf k' x' x')) (min (add q1 (hf k' x' x')) p1)) p1) = 0)) (H2 : Hid ((sub (max (sub q2 (hf k' x' y')) (min (add q2 (hf k' x' y')) p2)) p2) = 0)) (H3 : Hid ((sub (max (sub q3 (hf k' x' z')) (min (add q3 (hf k' x' z')) p3)) p3) = 0)) (hd : 0 < add (outT p1 p2 p3 p1 p2 p3 (sub q1 (hf k' x' x')) (sub q2 (hf k' x' y')) (sub q3 (hf k' x' z')) (add q1 (hf k' x' x')) (add q2 (hf k' x' y')) (add q3 (hf k' x' z'))).2.2.2 x) (w : World) : Calls Try.prog 77 #[.agg #[.int .i64 k, .int .i64 x, .int .i64 y, .int .i64 z], .agg #[.int .i64 p1, .int .i64 p2, .int .i64 p3], .agg #[.int .i64 k', .int .i64 x', .int .i64 y', .int .i64 z'], .agg #[.int .i64 q1, .int .i64 q2, .int .i64 q3]] w fun e w' => e = .returned (.tuple #[.agg #[.int .i64 ((outT p1 p2 p3 p1 p2 p3 (sub q1 (hf k' x' x')) (sub q2 (hf k' x' y')) (sub q3 (hf k' x' z')) (add q1 (hf k' x' x')) (add q2 (hf k' x' y')) (add q3 (hf k' x' z'))).1), .int .i64 ((outT p1 p2 p3 p1 p2 p3 (sub q1 (hf k' x' x')) (sub q2 (hf k' x' y')) (sub q3 (hf k' x' z')) (add q1 (hf k' x' x')) (add q2 (hf k' x' y')) (add q3 (hf k' x' z'))).2.1), .int .i64 ((outT p1 p2 p3 p1 p2 p3 (sub q1 (hf k' x' x')) (sub q2 (hf k' x' y')) (sub q3 (hf k' x' z')) (add q1 (hf k' x' x')) (add q2 (hf k' x' y')) (add q3 (hf k' x' z'))).2.2.1)], .int .i64 (add (outT p1 p2 p3 p1 p2 p3 (sub q1 (hf k' x' x')) (sub q2 (hf k' x' y')) (sub q3 (hf k' x' z')) (add q1 (hf k' x' x')) (add q2 (hf k' x' y')) (add q3 (hf k' x' z'))).2.2.2 x), .bool true]) ∧ Below w.heap.size w w' := by
  have hmc := more_cell
  have hmf := more_frozen
  have hml := more_lt
  go_enter Try.func77, Try.ntmps77
  go_wp2_with fail
  refine (raround_c _ _ _ _ _ _ _ _).mono ?_
  rintro e w1 ⟨rfl, hb1⟩
  have B1_0 : Blk w1 (w.heap.size) _ := Blk.below (by repeat (with_reducible (first | assumption | (apply Blk.at; simp; done) | apply Blk.alloc | apply Blk.drew | apply Blk.drewN | apply Blk.more | apply Blk.put | (apply Blk.far; focus (first | assumption | (apply Ne.symm; assumption) | (simp; done) | (simp <;> omega)))))) hb1
  obtain ⟨z1_0, c1_0, f1_0⟩ := id B1_0
  have B1_1 : Blk w1 (w.heap.size + 1) _ := Blk.below (by repeat (with_reducible (first | assumption | (apply Blk.at; simp; done) | apply Blk.alloc | apply Blk.drew | apply Blk.drewN | apply Blk.more | apply Blk.put | (apply Blk.far; focus (first | assumption | (apply Ne.symm; assumption) | (simp; done) | (simp <;> omega)))))) hb1
  obtain ⟨z1_1, c1_1, f1_1⟩ := id B1_1
  have B1_2 : Blk w1 (w.heap.size + 1 + 1) _ := Blk.below (by repeat (with_reducible (first | assumption | (apply Blk.at; simp; done) | apply Blk.alloc | apply Blk.drew | apply Blk.drewN | apply Blk.more | apply Blk.put | (apply Blk.far; focus (first | assumption | (apply Ne.symm; assumption) | (simp; done) | (simp <;> omega)))))) hb1
  obtain ⟨z1_2, c1_2, f1_2⟩ := id B1_2
  have B1_3 : Blk w1 (w.heap.size + 1 + 1 + 1) _ := Blk.below (by repeat (with_reducible (first | assumption | (apply Blk.at; simp; done) | apply Blk.alloc | apply Blk.drew | apply Blk.drewN | apply Blk.more | apply Blk.put | (apply Blk.far; focus (first | assumption | (apply Ne.symm; assumption) | (simp; done) | (simp <;> omega)))))) hb1
  obtain ⟨z1_3, c1_3, f1_3⟩ := id B1_3
  have B1_4 : Blk w1 (w.heap.size + 1 + 1 + 1 + 1) _ := Blk.below (by repeat (with_reducible (first | assumption | (apply Blk.at; simp; done) | apply Blk.alloc | apply Blk.drew | apply Blk.drewN | apply Blk.more | apply Blk.put | (apply Blk.far; focus (first | assumption | (apply Ne.symm; assumption) | (simp; done) | (simp <;> omega)))))) hb1
  obtain ⟨z1_4, c1_4, f1_4⟩ := id B1_4
  have B1_5 : Blk w1 (w.heap.size + 1 + 1 + 1 + 1 + 1) _ := Blk.below (by repeat (with_reducible (first | assumption | (apply Blk.at; simp; done) | apply Blk.alloc | apply Blk.drew | apply Blk.drewN | apply Blk.more | apply Blk.put | (apply Blk.far; focus (first | assumption | (apply Ne.symm; assumption) | (simp; done) | (simp <;> omega)))))) hb1
  obtain ⟨z1_5, c1_5, f1_5⟩ := id B1_5
  go_wp2_with fail
  refine wp_fresh ?_
  rintro w2 hb2
  have B2_0 : Blk w2 (w.heap.size) _ := Blk.below (by repeat (with_reducible (first | assumption | (apply Blk.at; simp; done) | apply Blk.alloc | apply Blk.drew | apply Blk.drewN | apply Blk.more | apply Blk.put | (apply Blk.far; focus (first | assumption | (apply Ne.symm; assumption) | (simp; done) | (simp <;> omega)))))) hb2
  obtain ⟨z2_0, c2_0, f2_0⟩ := id B2_0
  have B2_1 : Blk w2 (w.heap.size + 1) _ := Blk.below (by repeat (with_reducible (first | assumption | (apply Blk.at; simp; done) | apply Blk.alloc | apply Blk.drew | apply Blk.drewN | apply Blk.more | apply Blk.put | (apply Blk.far; focus (first | assumption | (apply Ne.symm; assumption) | (simp; done) | (simp <;> omega)))))) hb2
  obtain ⟨z2_1, c2_1, f2_1⟩ := id B2_1
  have B2_2 : Blk w2 (w.heap.size + 1 + 1) _ := Blk.below (by repeat (with_reducible (first | assumption | (apply Blk.at; simp; done) | apply Blk.alloc | apply Blk.drew | apply Blk.drewN | apply Blk.more | apply Blk.put | (apply Blk.far; focus (first | assumption | (apply Ne.symm; assumption) | (simp; done) | (simp <;> omega)))))) hb2
  obtain ⟨z2_2, c2_2, f2_2⟩ := id B2_2
  have B2_3 : Blk w2 (w.heap.size + 1 + 1 + 1) _ := Blk.below (by repeat (with_reducible (first | assumption | (apply Blk.at; simp; done) | apply Blk.alloc | apply Blk.drew | apply Blk.drewN | apply Blk.more | apply Blk.put | (apply Blk.far; focus (first | assumption | (apply Ne.symm; assumption) | (simp; done) | (simp <;> omega)))))) hb2
  obtain ⟨z2_3, c2_3, f2_3⟩ := id B2_3
  have B2_4 : Blk w2 (w.heap.size + 1 + 1 + 1 + 1) _ := Blk.below (by repeat (with_reducible (first | assumption | (apply Blk.at; simp; done) | apply Blk.alloc | apply Blk.drew | apply Blk.drewN | apply Blk.more | apply Blk.put | (apply Blk.far; focus (first | assumption | (apply Ne.symm; assumption) | (simp; done) | (simp <;> omega)))))) hb2
  obtain ⟨z2_4, c2_4, f2_4⟩ := id B2_4
  have B2_5 : Blk w2 (w.heap.size + 1 + 1 + 1 + 1 + 1) _ := Blk.below (by repeat (with_reducible (first | assumption | (apply Blk.at; simp; done) | apply Blk.alloc | apply Blk.drew | apply Blk.drewN | apply Blk.more | apply Blk.put | (apply Blk.far; focus (first | assumption | (apply Ne.symm; assumption) | (simp; done) | (simp <;> omega)))))) hb2
  obtain ⟨z2_5, c2_5, f2_5⟩ := id B2_5
  have B2_6 : Blk w2 (w1.heap.size) _ := Blk.below (by repeat (with_reducible (first | assumption | (apply Blk.at; simp; done) | apply Blk.alloc | apply Blk.drew | apply Blk.drewN | apply Blk.more | apply Blk.put | (apply Blk.far; focus (first | assumption | (apply Ne.symm; assumption) | (simp; done) | (simp <;> omega)))))) hb2
  try simp only [List.setIfInBounds_toArray, List.set_cons_zero, List.set_cons_succ] at B2_6
  obtain ⟨z2_6, c2_6, f2_6⟩ := id B2_6
  refine region_grow (A := ?A3) 5 [15] (fun _ => #[.int .i64 0, .int .i64 0, .int .i64 0]) (by kernel_rfl) (by kernel_rfl) ?hrun3 ?hq3 ?htail3
  case hq3 =>
    intro w0 hb0
    simp only [List.take_succ_cons, List.take_zero]
    have B0_0 : Blk w0 _ _ := B2_0.below hb0
    obtain ⟨z0_0, c0_0, f0_0⟩ := id B0_0
    have B0_1 : Blk w0 _ _ := B2_1.below hb0
    obtain ⟨z0_1, c0_1, f0_1⟩ := id B0_1
    have B0_2 : Blk w0 _ _ := B2_2.below hb0
    obtain ⟨z0_2, c0_2, f0_2⟩ := id B0_2
    have B0_3 : Blk w0 _ _ := B2_3.below hb0
    obtain ⟨z0_3, c0_3, f0_3⟩ := id B0_3
    have B0_4 : Blk w0 _ _ := B2_4.below hb0
    obtain ⟨z0_4, c0_4, f0_4⟩ := id B0_4
    have B0_5 : Blk w0 _ _ := B2_5.below hb0
    obtain ⟨z0_5, c0_5, f0_5⟩ := id B0_5
    have B0_6 : Blk w0 _ _ := B2_6.below hb0
    obtain ⟨z0_6, c0_6, f0_6⟩ := id B0_6
    repeat (go_big_quiet_step ((first | (go_at_call 28; exact calls_after (rnear_c _ _ _ _ _ _ _ _ _ _)) | (go_at_call 61; exact calls_after (rminus_c _ _ _ _ _ _ _)))))
    refine wpQuiet_nil ?_
    rfl
  case hrun3 =>
    intro j hj
    match j, hj with
    | 0, _ => exact ⟨_, _, rfl, fun a w => by simp [go_sem]; rfl⟩
  case htail3 =>
    intro gs w3 hb3 hblk hne
    obtain ⟨G3_0, hg3_0⟩ := hblk 0 (by decide)
    simp only [List.drop_succ_cons, List.drop_zero, List.length_cons, List.length_nil, laySlots]
    clear hblk hne
    generalize gs 0 = g3_0 at *
    have B3_0 : Blk w3 _ _ := B2_0.below hb3
    obtain ⟨z3_0, c3_0, f3_0⟩ := id B3_0
    have B3_1 : Blk w3 _ _ := B2_1.below hb3
    obtain ⟨z3_1, c3_1, f3_1⟩ := id B3_1
    have B3_2 : Blk w3 _ _ := B2_2.below hb3
    obtain ⟨z3_2, c3_2, f3_2⟩ := id B3_2
    have B3_3 : Blk w3 _ _ := B2_3.below hb3
    obtain ⟨z3_3, c3_3, f3_3⟩ := id B3_3
    have B3_4 : Blk w3 _ _ := B2_4.below hb3
    obtain ⟨z3_4, c3_4, f3_4⟩ := id B3_4
    have B3_5 : Blk w3 _ _ := B2_5.below hb3
    obtain ⟨z3_5, c3_5, f3_5⟩ := id B3_5
    have B3_6 : Blk w3 _ _ := B2_6.below hb3
    obtain ⟨z3_6, c3_6, f3_6⟩ := id B3_6
    obtain ⟨zg3_0, cg3_0, fg3_0⟩ := id G3_0
    have ne3_0_0 : g3_0 ≠ w.heap.size := by omega
    have ne3_0_1 : g3_0 ≠ w.heap.size + 1 := by omega
    have ne3_0_2 : g3_0 ≠ w.heap.size + 1 + 1 := by omega
    have ne3_0_3 : g3_0 ≠ w.heap.size + 1 + 1 + 1 := by omega
    have ne3_0_4 : g3_0 ≠ w.heap.size + 1 + 1 + 1 + 1 := by omega
    have ne3_0_5 : g3_0 ≠ w.heap.size + 1 + 1 + 1 + 1 + 1 := by omega
    have ne3_0_6 : g3_0 ≠ w1.heap.size := by omega
    simp only [H1.out, H2.out, H3.out]
    go_wp2_with fail
    refine (rout_c _ _ _ _ _ _ _ _ _ _ _ _ _).mono ?_
    rintro e w4 ⟨rfl, hb4⟩
    have B4_0 : Blk w4 (w.heap.size) _ := Blk.below (by repeat (with_reducible (first | assumption | (apply Blk.at; simp; done) | apply Blk.alloc | apply Blk.drew | apply Blk.drewN | apply Blk.more | apply Blk.put | (apply Blk.far; focus (first | assumption | (apply Ne.symm; assumption) | (simp; done) | (simp <;> omega)))))) hb4
    obtain ⟨z4_0, c4_0, f4_0⟩ := id B4_0
    have B4_1 : Blk w4 (w.heap.size + 1) _ := Blk.below (by repeat (with_reducible (first | assumption | (apply Blk.at; simp; done) | apply Blk.alloc | apply Blk.drew | apply Blk.drewN | apply Blk.more | apply Blk.put | (apply Blk.far; focus (first | assumption | (apply Ne.symm; assumption) | (simp; done) | (simp <;> omega)))))) hb4
    obtain ⟨z4_1, c4_1, f4_1⟩ := id B4_1
    have B4_2 : Blk w4 (w.heap.size + 1 + 1) _ := Blk.below (by repeat (with_reducible (first | assumption | (apply Blk.at; simp; done) | apply Blk.alloc | apply Blk.drew | apply Blk.drewN | apply Blk.more | apply Blk.put | (apply Blk.far; focus (first | assumption | (apply Ne.symm; assumption) | (simp; done) | (simp <;> omega)))))) hb4
    obtain ⟨z4_2, c4_2, f4_2⟩ := id B4_2
    have B4_3 : Blk w4 (w.heap.size + 1 + 1 + 1) _ := Blk.below (by repeat (with_reducible (first | assumption | (apply Blk.at; simp; done) | apply Blk.alloc | apply Blk.drew | apply Blk.drewN | apply Blk.more | apply Blk.put | (apply Blk.far; focus (first | assumption | (apply Ne.symm; assumption) | (simp; done) | (simp <;> omega)))))) hb4
    obtain ⟨z4_3, c4_3, f4_3⟩ := id B4_3
    have B4_4 : Blk w4 (w.heap.size + 1 + 1 + 1 + 1) _ := Blk.below (by repeat (with_reducible (first | assumption | (apply Blk.at; simp; done) | apply Blk.alloc | apply Blk.drew | apply Blk.drewN | apply Blk.more | apply Blk.put | (apply Blk.far; focus (first | assumption | (apply Ne.symm; assumption) | (simp; done) | (simp <;> omega)))))) hb4
    obtain ⟨z4_4, c4_4, f4_4⟩ := id B4_4
    have B4_5 : Blk w4 (w.heap.size + 1 + 1 + 1 + 1 + 1) _ := Blk.below (by repeat (with_reducible (first | assumption | (apply Blk.at; simp; done) | apply Blk.alloc | apply Blk.drew | apply Blk.drewN | apply Blk.more | apply Blk.put | (apply Blk.far; focus (first | assumption | (apply Ne.symm; assumption) | (simp; done) | (simp <;> omega)))))) hb4
    obtain ⟨z4_5, c4_5, f4_5⟩ := id B4_5
    have B4_6 : Blk w4 (w1.heap.size) _ := Blk.below (by repeat (with_reducible (first | assumption | (apply Blk.at; simp; done) | apply Blk.alloc | apply Blk.drew | apply Blk.drewN | apply Blk.more | apply Blk.put | (apply Blk.far; focus (first | assumption | (apply Ne.symm; assumption) | (simp; done) | (simp <;> omega)))))) hb4
    obtain ⟨z4_6, c4_6, f4_6⟩ := id B4_6
    have B4_7 : Blk w4 (g3_0) _ := Blk.below (by repeat (with_reducible (first | assumption | (apply Blk.at; simp; done) | apply Blk.alloc | apply Blk.drew | apply Blk.drewN | apply Blk.more | apply Blk.put | (apply Blk.far; focus (first | assumption | (apply Ne.symm; assumption) | (simp; done) | (simp <;> omega)))))) hb4
    try simp only [List.setIfInBounds_toArray, List.set_cons_zero, List.set_cons_succ] at B4_7
    obtain ⟨z4_7, c4_7, f4_7⟩ := id B4_7
    go_wp2_with fail
    refine (radd_c _ _ _).mono ?_
    rintro e w' ⟨rfl, rfl⟩
    go_wp2
    exact bodyPost_ret (v := .tuple #[.agg #[.int .i64 ((outT p1 p2 p3 p1 p2 p3 (sub q1 (hf k' x' x')) (sub q2 (hf k' x' y')) (sub q3 (hf k' x' z')) (add q1 (hf k' x' x')) (add q2 (hf k' x' y')) (add q3 (hf k' x' z'))).1), .int .i64 ((outT p1 p2 p3 p1 p2 p3 (sub q1 (hf k' x' x')) (sub q2 (hf k' x' y')) (sub q3 (hf k' x' z')) (add q1 (hf k' x' x')) (add q2 (hf k' x' y')) (add q3 (hf k' x' z'))).2.1), .int .i64 ((outT p1 p2 p3 p1 p2 p3 (sub q1 (hf k' x' x')) (sub q2 (hf k' x' y')) (sub q3 (hf k' x' z')) (add q1 (hf k' x' x')) (add q2 (hf k' x' y')) (add q3 (hf k' x' z'))).2.2.1)], .int .i64 (add (outT p1 p2 p3 p1 p2 p3 (sub q1 (hf k' x' x')) (sub q2 (hf k' x' y')) (sub q3 (hf k' x' z')) (add q1 (hf k' x' x')) (add q2 (hf k' x' y')) (add q3 (hf k' x' z'))).2.2.2 x), .bool true]) (by simp [results, Try.results77, go_sem, *]) rfl ⟨rfl, (by repeat (with_reducible (first | exact Below.refl _ _ | assumption | apply ext_drew | apply ext_drewN | apply ext_alloc | apply ext_more | (refine ext_setCell ?_ (by simp <;> omega) _) | (refine ext_below ?_ (by assumption)))))⟩

theorem rt_ba (k x y z p1 p2 p3 k' x' y' z' q1 q2 q3 : Int) (e1 : (k == 1) = true) (e2 : (k' == 1) = false) (hr : 1 ≤ x ∧ x ≤ 3276800) (hs : shapeB k' x' y' z' = true) (w : World) : Calls Try.prog 77 #[.agg #[.int .i64 k, .int .i64 x, .int .i64 y, .int .i64 z], .agg #[.int .i64 p1, .int .i64 p2, .int .i64 p3], .agg #[.int .i64 k', .int .i64 x', .int .i64 y', .int .i64 z'], .agg #[.int .i64 q1, .int .i64 q2, .int .i64 q3]] w fun e w' => e = .returned (tup (ballAt x p1 p2 p3 k' x' y' z' q1 q2 q3)) ∧ Below w.heap.size w w' := by
  obtain ⟨_, _, _, g1, g2, g3⟩ := shape_hf hs
  by_cases h1 : (sub (max (sub q1 (hf k' x' x')) (min (add q1 (hf k' x' x')) p1)) p1) = 0
  · by_cases h2 : (sub (max (sub q2 (hf k' x' y')) (min (add q2 (hf k' x' y')) p2)) p2) = 0
    · by_cases h3 : (sub (max (sub q3 (hf k' x' z')) (min (add q3 (hf k' x' z')) p3)) p3) = 0
      · have hi : inB p1 p2 p3 (sub q1 (hf k' x' x')) (sub q2 (hf k' x' y')) (sub q3 (hf k' x' z')) (add q1 (hf k' x' x')) (add q2 (hf k' x' y')) (add q3 (hf k' x' z')) = true := by unfold inB; rw [h1, h2, h3]; rfl
        have hd := ball_deep hr g1 g2 g3 hi
        unfold ballAt ballT; rw [if_pos hi, tup_yes hd]
        exact rt_ba3 k x y z p1 p2 p3 k' x' y' z' q1 q2 q3 e1 e2 h1 h2 h3 hd w
      · have hi : ¬ inB p1 p2 p3 (sub q1 (hf k' x' x')) (sub q2 (hf k' x' y')) (sub q3 (hf k' x' z')) (add q1 (hf k' x' x')) (add q2 (hf k' x' y')) (add q3 (hf k' x' z')) = true := by unfold inB; simp [h3]
        unfold ballAt ballT; rw [if_neg hi]
        rw [h1]
        rw [h2]
        by_cases hd : sub x (long 0 0 (sub (max (sub q3 (hf k' x' z')) (min (add q3 (hf k' x' z')) p3)) p3)) ≤ 0
        · rw [tup_no (T := ballN x 0 0 (sub (max (sub q3 (hf k' x' z')) (min (add q3 (hf k' x' z')) p3)) p3)) hd]; exact rt_ba20 k x y z p1 p2 p3 k' x' y' z' q1 q2 q3 (sub (max (sub q3 (hf k' x' z')) (min (add q3 (hf k' x' z')) p3)) p3) e1 e2 h1 h2 rfl h3 hd w
        · rw [tup_yes (T := ballN x 0 0 (sub (max (sub q3 (hf k' x' z')) (min (add q3 (hf k' x' z')) p3)) p3)) (by unfold ballN; simp only; omega)]; exact rt_ba21 k x y z p1 p2 p3 k' x' y' z' q1 q2 q3 (sub (max (sub q3 (hf k' x' z')) (min (add q3 (hf k' x' z')) p3)) p3) e1 e2 h1 h2 rfl h3 (by omega) w
    · have hi : ¬ inB p1 p2 p3 (sub q1 (hf k' x' x')) (sub q2 (hf k' x' y')) (sub q3 (hf k' x' z')) (add q1 (hf k' x' x')) (add q2 (hf k' x' y')) (add q3 (hf k' x' z')) = true := by unfold inB; simp [h2]
      unfold ballAt ballT; rw [if_neg hi]
      rw [h1]
      by_cases hd : sub x (long 0 (sub (max (sub q2 (hf k' x' y')) (min (add q2 (hf k' x' y')) p2)) p2) (sub (max (sub q3 (hf k' x' z')) (min (add q3 (hf k' x' z')) p3)) p3)) ≤ 0
      · rw [tup_no (T := ballN x 0 (sub (max (sub q2 (hf k' x' y')) (min (add q2 (hf k' x' y')) p2)) p2) (sub (max (sub q3 (hf k' x' z')) (min (add q3 (hf k' x' z')) p3)) p3)) hd]; exact rt_ba10 k x y z p1 p2 p3 k' x' y' z' q1 q2 q3 (sub (max (sub q2 (hf k' x' y')) (min (add q2 (hf k' x' y')) p2)) p2) (sub (max (sub q3 (hf k' x' z')) (min (add q3 (hf k' x' z')) p3)) p3) e1 e2 h1 rfl rfl h2 hd w
      · rw [tup_yes (T := ballN x 0 (sub (max (sub q2 (hf k' x' y')) (min (add q2 (hf k' x' y')) p2)) p2) (sub (max (sub q3 (hf k' x' z')) (min (add q3 (hf k' x' z')) p3)) p3)) (by unfold ballN; simp only; omega)]; exact rt_ba11 k x y z p1 p2 p3 k' x' y' z' q1 q2 q3 (sub (max (sub q2 (hf k' x' y')) (min (add q2 (hf k' x' y')) p2)) p2) (sub (max (sub q3 (hf k' x' z')) (min (add q3 (hf k' x' z')) p3)) p3) e1 e2 h1 rfl rfl h2 (by omega) w
  · have hi : ¬ inB p1 p2 p3 (sub q1 (hf k' x' x')) (sub q2 (hf k' x' y')) (sub q3 (hf k' x' z')) (add q1 (hf k' x' x')) (add q2 (hf k' x' y')) (add q3 (hf k' x' z')) = true := by unfold inB; simp [h1]
    unfold ballAt ballT; rw [if_neg hi]
    by_cases hd : sub x (long (sub (max (sub q1 (hf k' x' x')) (min (add q1 (hf k' x' x')) p1)) p1) (sub (max (sub q2 (hf k' x' y')) (min (add q2 (hf k' x' y')) p2)) p2) (sub (max (sub q3 (hf k' x' z')) (min (add q3 (hf k' x' z')) p3)) p3)) ≤ 0
    · rw [tup_no (T := ballN x (sub (max (sub q1 (hf k' x' x')) (min (add q1 (hf k' x' x')) p1)) p1) (sub (max (sub q2 (hf k' x' y')) (min (add q2 (hf k' x' y')) p2)) p2) (sub (max (sub q3 (hf k' x' z')) (min (add q3 (hf k' x' z')) p3)) p3)) hd]; exact rt_ba00 k x y z p1 p2 p3 k' x' y' z' q1 q2 q3 (sub (max (sub q1 (hf k' x' x')) (min (add q1 (hf k' x' x')) p1)) p1) (sub (max (sub q2 (hf k' x' y')) (min (add q2 (hf k' x' y')) p2)) p2) (sub (max (sub q3 (hf k' x' z')) (min (add q3 (hf k' x' z')) p3)) p3) e1 e2 rfl rfl rfl h1 hd w
    · rw [tup_yes (T := ballN x (sub (max (sub q1 (hf k' x' x')) (min (add q1 (hf k' x' x')) p1)) p1) (sub (max (sub q2 (hf k' x' y')) (min (add q2 (hf k' x' y')) p2)) p2) (sub (max (sub q3 (hf k' x' z')) (min (add q3 (hf k' x' z')) p3)) p3)) (by unfold ballN; simp only; omega)]; exact rt_ba01 k x y z p1 p2 p3 k' x' y' z' q1 q2 q3 (sub (max (sub q1 (hf k' x' x')) (min (add q1 (hf k' x' x')) p1)) p1) (sub (max (sub q2 (hf k' x' y')) (min (add q2 (hf k' x' y')) p2)) p2) (sub (max (sub q3 (hf k' x' z')) (min (add q3 (hf k' x' z')) p3)) p3) e1 e2 rfl rfl rfl h1 (by omega) w

theorem rt_l (k x y z p1 p2 p3 k' x' y' z' q1 q2 q3 : Int) (e1 : (k == 1) = true) (e2 : (k' == 1) = false) (hr : 1 ≤ x ∧ x ≤ 3276800) (hs : shapeB k' x' y' z' = true) (w : World) : Calls Try.prog 77 #[.agg #[.int .i64 k, .int .i64 x, .int .i64 y, .int .i64 z], .agg #[.int .i64 p1, .int .i64 p2, .int .i64 p3], .agg #[.int .i64 k', .int .i64 x', .int .i64 y', .int .i64 z'], .agg #[.int .i64 q1, .int .i64 q2, .int .i64 q3]] w fun e w' => e = .returned (.tuple #[.agg #[.int .i64 (tx (ballAt x p1 p2 p3 k' x' y' z' q1 q2 q3)), .int .i64 (ty (ballAt x p1 p2 p3 k' x' y' z' q1 q2 q3)), .int .i64 (tz (ballAt x p1 p2 p3 k' x' y' z' q1 q2 q3))], .int .i64 (td (ballAt x p1 p2 p3 k' x' y' z' q1 q2 q3)), .bool (tk (ballAt x p1 p2 p3 k' x' y' z' q1 q2 q3))]) ∧ Below w.heap.size w w' := rt_ba k x y z p1 p2 p3 k' x' y' z' q1 q2 q3 e1 e2 hr hs w
set_option maxHeartbeats 4000000 in
theorem rt_ab (k x y z p1 p2 p3 k' x' y' z' q1 q2 q3  : Int) (e1 : (k == 1) = false) (e2 : (k' == 1) = true) (hr : 1 ≤ x' ∧ x' ≤ 3276800) (hs : shapeB k x y z = true) (w : World) : Calls Try.prog 77 #[.agg #[.int .i64 k, .int .i64 x, .int .i64 y, .int .i64 z], .agg #[.int .i64 p1, .int .i64 p2, .int .i64 p3], .agg #[.int .i64 k', .int .i64 x', .int .i64 y', .int .i64 z'], .agg #[.int .i64 q1, .int .i64 q2, .int .i64 q3]] w fun e w' => e = .returned (.tuple #[.agg #[.int .i64 (-tx (ballAt x' q1 q2 q3 k x y z p1 p2 p3)), .int .i64 (-ty (ballAt x' q1 q2 q3 k x y z p1 p2 p3)), .int .i64 (-tz (ballAt x' q1 q2 q3 k x y z p1 p2 p3))], .int .i64 (td (ballAt x' q1 q2 q3 k x y z p1 p2 p3)), .bool (tk (ballAt x' q1 q2 q3 k x y z p1 p2 p3))]) ∧ Below w.heap.size w w' := by
  have hmc := more_cell
  have hmf := more_frozen
  have hml := more_lt
  have HR := Lib.hid hr
  have HS := Lib.hid hs
  clear hr hs
  obtain ⟨⟨u1, u2⟩, ⟨u3, u4⟩, u5, u6⟩ := t_bd (ballT_wb x' q1 q2 q3 (sub p1 (hf k x x)) (sub p2 (hf k x y)) (sub p3 (hf k x z)) (add p1 (hf k x x)) (add p2 (hf k x y)) (add p3 (hf k x z)))
  change _ ≤ tx (ballAt x' q1 q2 q3 k x y z p1 p2 p3) at u1
  change tx (ballAt x' q1 q2 q3 k x y z p1 p2 p3) ≤ _ at u2
  change _ ≤ ty (ballAt x' q1 q2 q3 k x y z p1 p2 p3) at u3
  change ty (ballAt x' q1 q2 q3 k x y z p1 p2 p3) ≤ _ at u4
  change _ ≤ tz (ballAt x' q1 q2 q3 k x y z p1 p2 p3) at u5
  change tz (ballAt x' q1 q2 q3 k x y z p1 p2 p3) ≤ _ at u6
  go_enter Try.func77, Try.ntmps77
  go_wp2_with fail
  refine (rt_l k' x' y' z' q1 q2 q3 k x y z p1 p2 p3 e2 e1 HR.out HS.out _).mono ?_
  rintro e w1 ⟨rfl, hb1⟩
  have B1_0 : Blk w1 (w.heap.size) _ := Blk.below (by repeat (with_reducible (first | assumption | (apply Blk.at; simp; done) | apply Blk.alloc | apply Blk.drew | apply Blk.drewN | apply Blk.more | apply Blk.put | (apply Blk.far; focus (first | assumption | (apply Ne.symm; assumption) | (simp; done) | (simp <;> omega)))))) hb1
  obtain ⟨z1_0, c1_0, f1_0⟩ := id B1_0
  have B1_1 : Blk w1 (w.heap.size + 1) _ := Blk.below (by repeat (with_reducible (first | assumption | (apply Blk.at; simp; done) | apply Blk.alloc | apply Blk.drew | apply Blk.drewN | apply Blk.more | apply Blk.put | (apply Blk.far; focus (first | assumption | (apply Ne.symm; assumption) | (simp; done) | (simp <;> omega)))))) hb1
  obtain ⟨z1_1, c1_1, f1_1⟩ := id B1_1
  have B1_2 : Blk w1 (w.heap.size + 1 + 1) _ := Blk.below (by repeat (with_reducible (first | assumption | (apply Blk.at; simp; done) | apply Blk.alloc | apply Blk.drew | apply Blk.drewN | apply Blk.more | apply Blk.put | (apply Blk.far; focus (first | assumption | (apply Ne.symm; assumption) | (simp; done) | (simp <;> omega)))))) hb1
  obtain ⟨z1_2, c1_2, f1_2⟩ := id B1_2
  have B1_3 : Blk w1 (w.heap.size + 1 + 1 + 1) _ := Blk.below (by repeat (with_reducible (first | assumption | (apply Blk.at; simp; done) | apply Blk.alloc | apply Blk.drew | apply Blk.drewN | apply Blk.more | apply Blk.put | (apply Blk.far; focus (first | assumption | (apply Ne.symm; assumption) | (simp; done) | (simp <;> omega)))))) hb1
  obtain ⟨z1_3, c1_3, f1_3⟩ := id B1_3
  have B1_4 : Blk w1 (w.heap.size + 1 + 1 + 1 + 1) _ := Blk.below (by repeat (with_reducible (first | assumption | (apply Blk.at; simp; done) | apply Blk.alloc | apply Blk.drew | apply Blk.drewN | apply Blk.more | apply Blk.put | (apply Blk.far; focus (first | assumption | (apply Ne.symm; assumption) | (simp; done) | (simp <;> omega)))))) hb1
  obtain ⟨z1_4, c1_4, f1_4⟩ := id B1_4
  have B1_5 : Blk w1 (w.heap.size + 1 + 1 + 1 + 1 + 1) _ := Blk.below (by repeat (with_reducible (first | assumption | (apply Blk.at; simp; done) | apply Blk.alloc | apply Blk.drew | apply Blk.drewN | apply Blk.more | apply Blk.put | (apply Blk.far; focus (first | assumption | (apply Ne.symm; assumption) | (simp; done) | (simp <;> omega)))))) hb1
  obtain ⟨z1_5, c1_5, f1_5⟩ := id B1_5
  go_wp2
  exact bodyPost_ret (v := .tuple #[.agg #[.int .i64 (-tx (ballAt x' q1 q2 q3 k x y z p1 p2 p3)), .int .i64 (-ty (ballAt x' q1 q2 q3 k x y z p1 p2 p3)), .int .i64 (-tz (ballAt x' q1 q2 q3 k x y z p1 p2 p3))], .int .i64 (td (ballAt x' q1 q2 q3 k x y z p1 p2 p3)), .bool (tk (ballAt x' q1 q2 q3 k x y z p1 p2 p3))]) (by simp [results, Try.results77, go_sem, *]) rfl ⟨rfl, (by repeat (with_reducible (first | exact Below.refl _ _ | assumption | apply ext_drew | apply ext_drewN | apply ext_alloc | apply ext_more | (refine ext_setCell ?_ (by simp <;> omega) _) | (refine ext_below ?_ (by assumption)))))⟩

set_option maxHeartbeats 4000000 in
theorem rt_aa0 (k x y z p1 p2 p3 k' x' y' z' q1 q2 q3  : Int) (e1 : (k == 1) = false) (e2 : (k' == 1) = false) (hm : meetB (sub p1 (hf k x x)) (sub p2 (hf k x y)) (sub p3 (hf k x z)) (add p1 (hf k x x)) (add p2 (hf k x y)) (add p3 (hf k x z)) (sub q1 (hf k' x' x')) (sub q2 (hf k' x' y')) (sub q3 (hf k' x' z')) (add q1 (hf k' x' x')) (add q2 (hf k' x' y')) (add q3 (hf k' x' z')) = false) (w : World) : Calls Try.prog 77 #[.agg #[.int .i64 k, .int .i64 x, .int .i64 y, .int .i64 z], .agg #[.int .i64 p1, .int .i64 p2, .int .i64 p3], .agg #[.int .i64 k', .int .i64 x', .int .i64 y', .int .i64 z'], .agg #[.int .i64 q1, .int .i64 q2, .int .i64 q3]] w fun e w' => e = .returned (.tuple #[.agg #[.int .i64 0, .int .i64 0, .int .i64 0], .int .i64 0, .bool false]) ∧ Below w.heap.size w w' := by
  have hmc := more_cell
  have hmf := more_frozen
  have hml := more_lt
  go_enter Try.func77, Try.ntmps77
  go_wp2_with fail
  refine wp_fresh ?_
  rintro w1 hb1
  have B1_0 : Blk w1 (w.heap.size) _ := Blk.below (by repeat (with_reducible (first | assumption | (apply Blk.at; simp; done) | apply Blk.alloc | apply Blk.drew | apply Blk.drewN | apply Blk.more | apply Blk.put | (apply Blk.far; focus (first | assumption | (apply Ne.symm; assumption) | (simp; done) | (simp <;> omega)))))) hb1
  obtain ⟨z1_0, c1_0, f1_0⟩ := id B1_0
  have B1_1 : Blk w1 (w.heap.size + 1) _ := Blk.below (by repeat (with_reducible (first | assumption | (apply Blk.at; simp; done) | apply Blk.alloc | apply Blk.drew | apply Blk.drewN | apply Blk.more | apply Blk.put | (apply Blk.far; focus (first | assumption | (apply Ne.symm; assumption) | (simp; done) | (simp <;> omega)))))) hb1
  obtain ⟨z1_1, c1_1, f1_1⟩ := id B1_1
  have B1_2 : Blk w1 (w.heap.size + 1 + 1) _ := Blk.below (by repeat (with_reducible (first | assumption | (apply Blk.at; simp; done) | apply Blk.alloc | apply Blk.drew | apply Blk.drewN | apply Blk.more | apply Blk.put | (apply Blk.far; focus (first | assumption | (apply Ne.symm; assumption) | (simp; done) | (simp <;> omega)))))) hb1
  obtain ⟨z1_2, c1_2, f1_2⟩ := id B1_2
  have B1_3 : Blk w1 (w.heap.size + 1 + 1 + 1) _ := Blk.below (by repeat (with_reducible (first | assumption | (apply Blk.at; simp; done) | apply Blk.alloc | apply Blk.drew | apply Blk.drewN | apply Blk.more | apply Blk.put | (apply Blk.far; focus (first | assumption | (apply Ne.symm; assumption) | (simp; done) | (simp <;> omega)))))) hb1
  obtain ⟨z1_3, c1_3, f1_3⟩ := id B1_3
  have B1_4 : Blk w1 (w.heap.size + 1 + 1 + 1 + 1) _ := Blk.below (by repeat (with_reducible (first | assumption | (apply Blk.at; simp; done) | apply Blk.alloc | apply Blk.drew | apply Blk.drewN | apply Blk.more | apply Blk.put | (apply Blk.far; focus (first | assumption | (apply Ne.symm; assumption) | (simp; done) | (simp <;> omega)))))) hb1
  obtain ⟨z1_4, c1_4, f1_4⟩ := id B1_4
  have B1_5 : Blk w1 (w.heap.size + 1 + 1 + 1 + 1 + 1) _ := Blk.below (by repeat (with_reducible (first | assumption | (apply Blk.at; simp; done) | apply Blk.alloc | apply Blk.drew | apply Blk.drewN | apply Blk.more | apply Blk.put | (apply Blk.far; focus (first | assumption | (apply Ne.symm; assumption) | (simp; done) | (simp <;> omega)))))) hb1
  obtain ⟨z1_5, c1_5, f1_5⟩ := id B1_5
  refine region_grow (A := ?A2) 6 [19, 20] (fun _ => #[.int .i64 0, .int .i64 0, .int .i64 0, .int .i64 0, .int .i64 0, .int .i64 0]) (by kernel_rfl) (by kernel_rfl) ?hrun2 ?hq2 ?htail2
  case hq2 =>
    intro w0 hb0
    simp only [List.take_succ_cons, List.take_zero]
    have B0_0 : Blk w0 _ _ := B1_0.below hb0
    obtain ⟨z0_0, c0_0, f0_0⟩ := id B0_0
    have B0_1 : Blk w0 _ _ := B1_1.below hb0
    obtain ⟨z0_1, c0_1, f0_1⟩ := id B0_1
    have B0_2 : Blk w0 _ _ := B1_2.below hb0
    obtain ⟨z0_2, c0_2, f0_2⟩ := id B0_2
    have B0_3 : Blk w0 _ _ := B1_3.below hb0
    obtain ⟨z0_3, c0_3, f0_3⟩ := id B0_3
    have B0_4 : Blk w0 _ _ := B1_4.below hb0
    obtain ⟨z0_4, c0_4, f0_4⟩ := id B0_4
    have B0_5 : Blk w0 _ _ := B1_5.below hb0
    obtain ⟨z0_5, c0_5, f0_5⟩ := id B0_5
    repeat (go_big_quiet_step ((go_at_call 32; exact calls_after (raround_c _ _ _ _ _ _ _ _))))
    refine wpQuiet_nil ?_
    rfl
  case hrun2 =>
    intro j hj
    match j, hj with
    | 0, _ => exact ⟨_, _, rfl, fun a w => by simp [go_sem]; rfl⟩
    | 1, _ => exact ⟨_, _, rfl, fun a w => by simp [go_sem]; rfl⟩
  case htail2 =>
    intro gs w2 hb2 hblk hne
    obtain ⟨G2_0, hg2_0⟩ := hblk 0 (by decide)
    obtain ⟨G2_1, hg2_1⟩ := hblk 1 (by decide)
    have hn2_0_1 := hne 0 1 (by decide) (by decide) (by decide)
    simp only [List.drop_succ_cons, List.drop_zero, List.length_cons, List.length_nil, laySlots]
    clear hblk hne
    generalize gs 0 = g2_0 at *
    generalize gs 1 = g2_1 at *
    have B2_0 : Blk w2 _ _ := B1_0.below hb2
    obtain ⟨z2_0, c2_0, f2_0⟩ := id B2_0
    have B2_1 : Blk w2 _ _ := B1_1.below hb2
    obtain ⟨z2_1, c2_1, f2_1⟩ := id B2_1
    have B2_2 : Blk w2 _ _ := B1_2.below hb2
    obtain ⟨z2_2, c2_2, f2_2⟩ := id B2_2
    have B2_3 : Blk w2 _ _ := B1_3.below hb2
    obtain ⟨z2_3, c2_3, f2_3⟩ := id B2_3
    have B2_4 : Blk w2 _ _ := B1_4.below hb2
    obtain ⟨z2_4, c2_4, f2_4⟩ := id B2_4
    have B2_5 : Blk w2 _ _ := B1_5.below hb2
    obtain ⟨z2_5, c2_5, f2_5⟩ := id B2_5
    obtain ⟨zg2_0, cg2_0, fg2_0⟩ := id G2_0
    have ne2_0_0 : g2_0 ≠ w.heap.size := by omega
    have ne2_0_1 : g2_0 ≠ w.heap.size + 1 := by omega
    have ne2_0_2 : g2_0 ≠ w.heap.size + 1 + 1 := by omega
    have ne2_0_3 : g2_0 ≠ w.heap.size + 1 + 1 + 1 := by omega
    have ne2_0_4 : g2_0 ≠ w.heap.size + 1 + 1 + 1 + 1 := by omega
    have ne2_0_5 : g2_0 ≠ w.heap.size + 1 + 1 + 1 + 1 + 1 := by omega
    obtain ⟨zg2_1, cg2_1, fg2_1⟩ := id G2_1
    have ne2_1_0 : g2_1 ≠ w.heap.size := by omega
    have ne2_1_1 : g2_1 ≠ w.heap.size + 1 := by omega
    have ne2_1_2 : g2_1 ≠ w.heap.size + 1 + 1 := by omega
    have ne2_1_3 : g2_1 ≠ w.heap.size + 1 + 1 + 1 := by omega
    have ne2_1_4 : g2_1 ≠ w.heap.size + 1 + 1 + 1 + 1 := by omega
    have ne2_1_5 : g2_1 ≠ w.heap.size + 1 + 1 + 1 + 1 + 1 := by omega
    go_wp2_with fail
    refine (rmeet_c _ _ _ _ _ _ _ _ _ _ _ _ _).mono ?_
    rintro e w3 ⟨rfl, hb3⟩
    have B3_0 : Blk w3 (w.heap.size) _ := Blk.below (by repeat (with_reducible (first | assumption | (apply Blk.at; simp; done) | apply Blk.alloc | apply Blk.drew | apply Blk.drewN | apply Blk.more | apply Blk.put | (apply Blk.far; focus (first | assumption | (apply Ne.symm; assumption) | (simp; done) | (simp <;> omega)))))) hb3
    obtain ⟨z3_0, c3_0, f3_0⟩ := id B3_0
    have B3_1 : Blk w3 (w.heap.size + 1) _ := Blk.below (by repeat (with_reducible (first | assumption | (apply Blk.at; simp; done) | apply Blk.alloc | apply Blk.drew | apply Blk.drewN | apply Blk.more | apply Blk.put | (apply Blk.far; focus (first | assumption | (apply Ne.symm; assumption) | (simp; done) | (simp <;> omega)))))) hb3
    obtain ⟨z3_1, c3_1, f3_1⟩ := id B3_1
    have B3_2 : Blk w3 (w.heap.size + 1 + 1) _ := Blk.below (by repeat (with_reducible (first | assumption | (apply Blk.at; simp; done) | apply Blk.alloc | apply Blk.drew | apply Blk.drewN | apply Blk.more | apply Blk.put | (apply Blk.far; focus (first | assumption | (apply Ne.symm; assumption) | (simp; done) | (simp <;> omega)))))) hb3
    obtain ⟨z3_2, c3_2, f3_2⟩ := id B3_2
    have B3_3 : Blk w3 (w.heap.size + 1 + 1 + 1) _ := Blk.below (by repeat (with_reducible (first | assumption | (apply Blk.at; simp; done) | apply Blk.alloc | apply Blk.drew | apply Blk.drewN | apply Blk.more | apply Blk.put | (apply Blk.far; focus (first | assumption | (apply Ne.symm; assumption) | (simp; done) | (simp <;> omega)))))) hb3
    obtain ⟨z3_3, c3_3, f3_3⟩ := id B3_3
    have B3_4 : Blk w3 (w.heap.size + 1 + 1 + 1 + 1) _ := Blk.below (by repeat (with_reducible (first | assumption | (apply Blk.at; simp; done) | apply Blk.alloc | apply Blk.drew | apply Blk.drewN | apply Blk.more | apply Blk.put | (apply Blk.far; focus (first | assumption | (apply Ne.symm; assumption) | (simp; done) | (simp <;> omega)))))) hb3
    obtain ⟨z3_4, c3_4, f3_4⟩ := id B3_4
    have B3_5 : Blk w3 (w.heap.size + 1 + 1 + 1 + 1 + 1) _ := Blk.below (by repeat (with_reducible (first | assumption | (apply Blk.at; simp; done) | apply Blk.alloc | apply Blk.drew | apply Blk.drewN | apply Blk.more | apply Blk.put | (apply Blk.far; focus (first | assumption | (apply Ne.symm; assumption) | (simp; done) | (simp <;> omega)))))) hb3
    obtain ⟨z3_5, c3_5, f3_5⟩ := id B3_5
    have B3_6 : Blk w3 (g2_0) _ := Blk.below (by repeat (with_reducible (first | assumption | (apply Blk.at; simp; done) | apply Blk.alloc | apply Blk.drew | apply Blk.drewN | apply Blk.more | apply Blk.put | (apply Blk.far; focus (first | assumption | (apply Ne.symm; assumption) | (simp; done) | (simp <;> omega)))))) hb3
    try simp only [List.setIfInBounds_toArray, List.set_cons_zero, List.set_cons_succ] at B3_6
    obtain ⟨z3_6, c3_6, f3_6⟩ := id B3_6
    have B3_7 : Blk w3 (g2_1) _ := Blk.below (by repeat (with_reducible (first | assumption | (apply Blk.at; simp; done) | apply Blk.alloc | apply Blk.drew | apply Blk.drewN | apply Blk.more | apply Blk.put | (apply Blk.far; focus (first | assumption | (apply Ne.symm; assumption) | (simp; done) | (simp <;> omega)))))) hb3
    try simp only [List.setIfInBounds_toArray, List.set_cons_zero, List.set_cons_succ] at B3_7
    obtain ⟨z3_7, c3_7, f3_7⟩ := id B3_7
    go_wp2
    exact bodyPost_ret (v := .tuple #[.agg #[.int .i64 0, .int .i64 0, .int .i64 0], .int .i64 0, .bool false]) (by simp [results, Try.results77, go_sem, *]) rfl ⟨rfl, (by repeat (with_reducible (first | exact Below.refl _ _ | assumption | apply ext_drew | apply ext_drewN | apply ext_alloc | apply ext_more | (refine ext_setCell ?_ (by simp <;> omega) _) | (refine ext_below ?_ (by assumption)))))⟩

set_option maxHeartbeats 4000000 in
theorem rt_aa1 (k x y z p1 p2 p3 k' x' y' z' q1 q2 q3  : Int) (e1 : (k == 1) = false) (e2 : (k' == 1) = false) (hm : meetB (sub p1 (hf k x x)) (sub p2 (hf k x y)) (sub p3 (hf k x z)) (add p1 (hf k x x)) (add p2 (hf k x y)) (add p3 (hf k x z)) (sub q1 (hf k' x' x')) (sub q2 (hf k' x' y')) (sub q3 (hf k' x' z')) (add q1 (hf k' x' x')) (add q2 (hf k' x' y')) (add q3 (hf k' x' z')) = true) (hd : (outT (sub p1 (hf k x x)) (sub p2 (hf k x y)) (sub p3 (hf k x z)) (add p1 (hf k x x)) (add p2 (hf k x y)) (add p3 (hf k x z)) (sub q1 (hf k' x' x')) (sub q2 (hf k' x' y')) (sub q3 (hf k' x' z')) (add q1 (hf k' x' x')) (add q2 (hf k' x' y')) (add q3 (hf k' x' z'))).2.2.2 ≤ 0) (w : World) : Calls Try.prog 77 #[.agg #[.int .i64 k, .int .i64 x, .int .i64 y, .int .i64 z], .agg #[.int .i64 p1, .int .i64 p2, .int .i64 p3], .agg #[.int .i64 k', .int .i64 x', .int .i64 y', .int .i64 z'], .agg #[.int .i64 q1, .int .i64 q2, .int .i64 q3]] w fun e w' => e = .returned (.tuple #[.agg #[.int .i64 0, .int .i64 0, .int .i64 0], .int .i64 0, .bool false]) ∧ Below w.heap.size w w' := by
  have hmc := more_cell
  have hmf := more_frozen
  have hml := more_lt
  go_enter Try.func77, Try.ntmps77
  go_wp2_with fail
  refine wp_fresh ?_
  rintro w1 hb1
  have B1_0 : Blk w1 (w.heap.size) _ := Blk.below (by repeat (with_reducible (first | assumption | (apply Blk.at; simp; done) | apply Blk.alloc | apply Blk.drew | apply Blk.drewN | apply Blk.more | apply Blk.put | (apply Blk.far; focus (first | assumption | (apply Ne.symm; assumption) | (simp; done) | (simp <;> omega)))))) hb1
  obtain ⟨z1_0, c1_0, f1_0⟩ := id B1_0
  have B1_1 : Blk w1 (w.heap.size + 1) _ := Blk.below (by repeat (with_reducible (first | assumption | (apply Blk.at; simp; done) | apply Blk.alloc | apply Blk.drew | apply Blk.drewN | apply Blk.more | apply Blk.put | (apply Blk.far; focus (first | assumption | (apply Ne.symm; assumption) | (simp; done) | (simp <;> omega)))))) hb1
  obtain ⟨z1_1, c1_1, f1_1⟩ := id B1_1
  have B1_2 : Blk w1 (w.heap.size + 1 + 1) _ := Blk.below (by repeat (with_reducible (first | assumption | (apply Blk.at; simp; done) | apply Blk.alloc | apply Blk.drew | apply Blk.drewN | apply Blk.more | apply Blk.put | (apply Blk.far; focus (first | assumption | (apply Ne.symm; assumption) | (simp; done) | (simp <;> omega)))))) hb1
  obtain ⟨z1_2, c1_2, f1_2⟩ := id B1_2
  have B1_3 : Blk w1 (w.heap.size + 1 + 1 + 1) _ := Blk.below (by repeat (with_reducible (first | assumption | (apply Blk.at; simp; done) | apply Blk.alloc | apply Blk.drew | apply Blk.drewN | apply Blk.more | apply Blk.put | (apply Blk.far; focus (first | assumption | (apply Ne.symm; assumption) | (simp; done) | (simp <;> omega)))))) hb1
  obtain ⟨z1_3, c1_3, f1_3⟩ := id B1_3
  have B1_4 : Blk w1 (w.heap.size + 1 + 1 + 1 + 1) _ := Blk.below (by repeat (with_reducible (first | assumption | (apply Blk.at; simp; done) | apply Blk.alloc | apply Blk.drew | apply Blk.drewN | apply Blk.more | apply Blk.put | (apply Blk.far; focus (first | assumption | (apply Ne.symm; assumption) | (simp; done) | (simp <;> omega)))))) hb1
  obtain ⟨z1_4, c1_4, f1_4⟩ := id B1_4
  have B1_5 : Blk w1 (w.heap.size + 1 + 1 + 1 + 1 + 1) _ := Blk.below (by repeat (with_reducible (first | assumption | (apply Blk.at; simp; done) | apply Blk.alloc | apply Blk.drew | apply Blk.drewN | apply Blk.more | apply Blk.put | (apply Blk.far; focus (first | assumption | (apply Ne.symm; assumption) | (simp; done) | (simp <;> omega)))))) hb1
  obtain ⟨z1_5, c1_5, f1_5⟩ := id B1_5
  refine region_grow (A := ?A2) 6 [19, 20] (fun _ => #[.int .i64 0, .int .i64 0, .int .i64 0, .int .i64 0, .int .i64 0, .int .i64 0]) (by kernel_rfl) (by kernel_rfl) ?hrun2 ?hq2 ?htail2
  case hq2 =>
    intro w0 hb0
    simp only [List.take_succ_cons, List.take_zero]
    have B0_0 : Blk w0 _ _ := B1_0.below hb0
    obtain ⟨z0_0, c0_0, f0_0⟩ := id B0_0
    have B0_1 : Blk w0 _ _ := B1_1.below hb0
    obtain ⟨z0_1, c0_1, f0_1⟩ := id B0_1
    have B0_2 : Blk w0 _ _ := B1_2.below hb0
    obtain ⟨z0_2, c0_2, f0_2⟩ := id B0_2
    have B0_3 : Blk w0 _ _ := B1_3.below hb0
    obtain ⟨z0_3, c0_3, f0_3⟩ := id B0_3
    have B0_4 : Blk w0 _ _ := B1_4.below hb0
    obtain ⟨z0_4, c0_4, f0_4⟩ := id B0_4
    have B0_5 : Blk w0 _ _ := B1_5.below hb0
    obtain ⟨z0_5, c0_5, f0_5⟩ := id B0_5
    repeat (go_big_quiet_step ((go_at_call 32; exact calls_after (raround_c _ _ _ _ _ _ _ _))))
    refine wpQuiet_nil ?_
    rfl
  case hrun2 =>
    intro j hj
    match j, hj with
    | 0, _ => exact ⟨_, _, rfl, fun a w => by simp [go_sem]; rfl⟩
    | 1, _ => exact ⟨_, _, rfl, fun a w => by simp [go_sem]; rfl⟩
  case htail2 =>
    intro gs w2 hb2 hblk hne
    obtain ⟨G2_0, hg2_0⟩ := hblk 0 (by decide)
    obtain ⟨G2_1, hg2_1⟩ := hblk 1 (by decide)
    have hn2_0_1 := hne 0 1 (by decide) (by decide) (by decide)
    simp only [List.drop_succ_cons, List.drop_zero, List.length_cons, List.length_nil, laySlots]
    clear hblk hne
    generalize gs 0 = g2_0 at *
    generalize gs 1 = g2_1 at *
    have B2_0 : Blk w2 _ _ := B1_0.below hb2
    obtain ⟨z2_0, c2_0, f2_0⟩ := id B2_0
    have B2_1 : Blk w2 _ _ := B1_1.below hb2
    obtain ⟨z2_1, c2_1, f2_1⟩ := id B2_1
    have B2_2 : Blk w2 _ _ := B1_2.below hb2
    obtain ⟨z2_2, c2_2, f2_2⟩ := id B2_2
    have B2_3 : Blk w2 _ _ := B1_3.below hb2
    obtain ⟨z2_3, c2_3, f2_3⟩ := id B2_3
    have B2_4 : Blk w2 _ _ := B1_4.below hb2
    obtain ⟨z2_4, c2_4, f2_4⟩ := id B2_4
    have B2_5 : Blk w2 _ _ := B1_5.below hb2
    obtain ⟨z2_5, c2_5, f2_5⟩ := id B2_5
    obtain ⟨zg2_0, cg2_0, fg2_0⟩ := id G2_0
    have ne2_0_0 : g2_0 ≠ w.heap.size := by omega
    have ne2_0_1 : g2_0 ≠ w.heap.size + 1 := by omega
    have ne2_0_2 : g2_0 ≠ w.heap.size + 1 + 1 := by omega
    have ne2_0_3 : g2_0 ≠ w.heap.size + 1 + 1 + 1 := by omega
    have ne2_0_4 : g2_0 ≠ w.heap.size + 1 + 1 + 1 + 1 := by omega
    have ne2_0_5 : g2_0 ≠ w.heap.size + 1 + 1 + 1 + 1 + 1 := by omega
    obtain ⟨zg2_1, cg2_1, fg2_1⟩ := id G2_1
    have ne2_1_0 : g2_1 ≠ w.heap.size := by omega
    have ne2_1_1 : g2_1 ≠ w.heap.size + 1 := by omega
    have ne2_1_2 : g2_1 ≠ w.heap.size + 1 + 1 := by omega
    have ne2_1_3 : g2_1 ≠ w.heap.size + 1 + 1 + 1 := by omega
    have ne2_1_4 : g2_1 ≠ w.heap.size + 1 + 1 + 1 + 1 := by omega
    have ne2_1_5 : g2_1 ≠ w.heap.size + 1 + 1 + 1 + 1 + 1 := by omega
    go_wp2_with fail
    refine (rmeet_c _ _ _ _ _ _ _ _ _ _ _ _ _).mono ?_
    rintro e w3 ⟨rfl, hb3⟩
    have B3_0 : Blk w3 (w.heap.size) _ := Blk.below (by repeat (with_reducible (first | assumption | (apply Blk.at; simp; done) | apply Blk.alloc | apply Blk.drew | apply Blk.drewN | apply Blk.more | apply Blk.put | (apply Blk.far; focus (first | assumption | (apply Ne.symm; assumption) | (simp; done) | (simp <;> omega)))))) hb3
    obtain ⟨z3_0, c3_0, f3_0⟩ := id B3_0
    have B3_1 : Blk w3 (w.heap.size + 1) _ := Blk.below (by repeat (with_reducible (first | assumption | (apply Blk.at; simp; done) | apply Blk.alloc | apply Blk.drew | apply Blk.drewN | apply Blk.more | apply Blk.put | (apply Blk.far; focus (first | assumption | (apply Ne.symm; assumption) | (simp; done) | (simp <;> omega)))))) hb3
    obtain ⟨z3_1, c3_1, f3_1⟩ := id B3_1
    have B3_2 : Blk w3 (w.heap.size + 1 + 1) _ := Blk.below (by repeat (with_reducible (first | assumption | (apply Blk.at; simp; done) | apply Blk.alloc | apply Blk.drew | apply Blk.drewN | apply Blk.more | apply Blk.put | (apply Blk.far; focus (first | assumption | (apply Ne.symm; assumption) | (simp; done) | (simp <;> omega)))))) hb3
    obtain ⟨z3_2, c3_2, f3_2⟩ := id B3_2
    have B3_3 : Blk w3 (w.heap.size + 1 + 1 + 1) _ := Blk.below (by repeat (with_reducible (first | assumption | (apply Blk.at; simp; done) | apply Blk.alloc | apply Blk.drew | apply Blk.drewN | apply Blk.more | apply Blk.put | (apply Blk.far; focus (first | assumption | (apply Ne.symm; assumption) | (simp; done) | (simp <;> omega)))))) hb3
    obtain ⟨z3_3, c3_3, f3_3⟩ := id B3_3
    have B3_4 : Blk w3 (w.heap.size + 1 + 1 + 1 + 1) _ := Blk.below (by repeat (with_reducible (first | assumption | (apply Blk.at; simp; done) | apply Blk.alloc | apply Blk.drew | apply Blk.drewN | apply Blk.more | apply Blk.put | (apply Blk.far; focus (first | assumption | (apply Ne.symm; assumption) | (simp; done) | (simp <;> omega)))))) hb3
    obtain ⟨z3_4, c3_4, f3_4⟩ := id B3_4
    have B3_5 : Blk w3 (w.heap.size + 1 + 1 + 1 + 1 + 1) _ := Blk.below (by repeat (with_reducible (first | assumption | (apply Blk.at; simp; done) | apply Blk.alloc | apply Blk.drew | apply Blk.drewN | apply Blk.more | apply Blk.put | (apply Blk.far; focus (first | assumption | (apply Ne.symm; assumption) | (simp; done) | (simp <;> omega)))))) hb3
    obtain ⟨z3_5, c3_5, f3_5⟩ := id B3_5
    have B3_6 : Blk w3 (g2_0) _ := Blk.below (by repeat (with_reducible (first | assumption | (apply Blk.at; simp; done) | apply Blk.alloc | apply Blk.drew | apply Blk.drewN | apply Blk.more | apply Blk.put | (apply Blk.far; focus (first | assumption | (apply Ne.symm; assumption) | (simp; done) | (simp <;> omega)))))) hb3
    try simp only [List.setIfInBounds_toArray, List.set_cons_zero, List.set_cons_succ] at B3_6
    obtain ⟨z3_6, c3_6, f3_6⟩ := id B3_6
    have B3_7 : Blk w3 (g2_1) _ := Blk.below (by repeat (with_reducible (first | assumption | (apply Blk.at; simp; done) | apply Blk.alloc | apply Blk.drew | apply Blk.drewN | apply Blk.more | apply Blk.put | (apply Blk.far; focus (first | assumption | (apply Ne.symm; assumption) | (simp; done) | (simp <;> omega)))))) hb3
    try simp only [List.setIfInBounds_toArray, List.set_cons_zero, List.set_cons_succ] at B3_7
    obtain ⟨z3_7, c3_7, f3_7⟩ := id B3_7
    go_wp2_with fail
    refine (rout_c _ _ _ _ _ _ _ _ _ _ _ _ _).mono ?_
    rintro e w4 ⟨rfl, hb4⟩
    have B4_0 : Blk w4 (w.heap.size) _ := Blk.below (by repeat (with_reducible (first | assumption | (apply Blk.at; simp; done) | apply Blk.alloc | apply Blk.drew | apply Blk.drewN | apply Blk.more | apply Blk.put | (apply Blk.far; focus (first | assumption | (apply Ne.symm; assumption) | (simp; done) | (simp <;> omega)))))) hb4
    obtain ⟨z4_0, c4_0, f4_0⟩ := id B4_0
    have B4_1 : Blk w4 (w.heap.size + 1) _ := Blk.below (by repeat (with_reducible (first | assumption | (apply Blk.at; simp; done) | apply Blk.alloc | apply Blk.drew | apply Blk.drewN | apply Blk.more | apply Blk.put | (apply Blk.far; focus (first | assumption | (apply Ne.symm; assumption) | (simp; done) | (simp <;> omega)))))) hb4
    obtain ⟨z4_1, c4_1, f4_1⟩ := id B4_1
    have B4_2 : Blk w4 (w.heap.size + 1 + 1) _ := Blk.below (by repeat (with_reducible (first | assumption | (apply Blk.at; simp; done) | apply Blk.alloc | apply Blk.drew | apply Blk.drewN | apply Blk.more | apply Blk.put | (apply Blk.far; focus (first | assumption | (apply Ne.symm; assumption) | (simp; done) | (simp <;> omega)))))) hb4
    obtain ⟨z4_2, c4_2, f4_2⟩ := id B4_2
    have B4_3 : Blk w4 (w.heap.size + 1 + 1 + 1) _ := Blk.below (by repeat (with_reducible (first | assumption | (apply Blk.at; simp; done) | apply Blk.alloc | apply Blk.drew | apply Blk.drewN | apply Blk.more | apply Blk.put | (apply Blk.far; focus (first | assumption | (apply Ne.symm; assumption) | (simp; done) | (simp <;> omega)))))) hb4
    obtain ⟨z4_3, c4_3, f4_3⟩ := id B4_3
    have B4_4 : Blk w4 (w.heap.size + 1 + 1 + 1 + 1) _ := Blk.below (by repeat (with_reducible (first | assumption | (apply Blk.at; simp; done) | apply Blk.alloc | apply Blk.drew | apply Blk.drewN | apply Blk.more | apply Blk.put | (apply Blk.far; focus (first | assumption | (apply Ne.symm; assumption) | (simp; done) | (simp <;> omega)))))) hb4
    obtain ⟨z4_4, c4_4, f4_4⟩ := id B4_4
    have B4_5 : Blk w4 (w.heap.size + 1 + 1 + 1 + 1 + 1) _ := Blk.below (by repeat (with_reducible (first | assumption | (apply Blk.at; simp; done) | apply Blk.alloc | apply Blk.drew | apply Blk.drewN | apply Blk.more | apply Blk.put | (apply Blk.far; focus (first | assumption | (apply Ne.symm; assumption) | (simp; done) | (simp <;> omega)))))) hb4
    obtain ⟨z4_5, c4_5, f4_5⟩ := id B4_5
    have B4_6 : Blk w4 (g2_0) _ := Blk.below (by repeat (with_reducible (first | assumption | (apply Blk.at; simp; done) | apply Blk.alloc | apply Blk.drew | apply Blk.drewN | apply Blk.more | apply Blk.put | (apply Blk.far; focus (first | assumption | (apply Ne.symm; assumption) | (simp; done) | (simp <;> omega)))))) hb4
    obtain ⟨z4_6, c4_6, f4_6⟩ := id B4_6
    have B4_7 : Blk w4 (g2_1) _ := Blk.below (by repeat (with_reducible (first | assumption | (apply Blk.at; simp; done) | apply Blk.alloc | apply Blk.drew | apply Blk.drewN | apply Blk.more | apply Blk.put | (apply Blk.far; focus (first | assumption | (apply Ne.symm; assumption) | (simp; done) | (simp <;> omega)))))) hb4
    obtain ⟨z4_7, c4_7, f4_7⟩ := id B4_7
    go_wp2
    exact bodyPost_ret (v := .tuple #[.agg #[.int .i64 0, .int .i64 0, .int .i64 0], .int .i64 0, .bool false]) (by simp [results, Try.results77, go_sem, *]) rfl ⟨rfl, (by repeat (with_reducible (first | exact Below.refl _ _ | assumption | apply ext_drew | apply ext_drewN | apply ext_alloc | apply ext_more | (refine ext_setCell ?_ (by simp <;> omega) _) | (refine ext_below ?_ (by assumption)))))⟩

set_option maxHeartbeats 4000000 in
theorem rt_aa2 (k x y z p1 p2 p3 k' x' y' z' q1 q2 q3  : Int) (e1 : (k == 1) = false) (e2 : (k' == 1) = false) (hm : meetB (sub p1 (hf k x x)) (sub p2 (hf k x y)) (sub p3 (hf k x z)) (add p1 (hf k x x)) (add p2 (hf k x y)) (add p3 (hf k x z)) (sub q1 (hf k' x' x')) (sub q2 (hf k' x' y')) (sub q3 (hf k' x' z')) (add q1 (hf k' x' x')) (add q2 (hf k' x' y')) (add q3 (hf k' x' z')) = true) (hd : 0 < (outT (sub p1 (hf k x x)) (sub p2 (hf k x y)) (sub p3 (hf k x z)) (add p1 (hf k x x)) (add p2 (hf k x y)) (add p3 (hf k x z)) (sub q1 (hf k' x' x')) (sub q2 (hf k' x' y')) (sub q3 (hf k' x' z')) (add q1 (hf k' x' x')) (add q2 (hf k' x' y')) (add q3 (hf k' x' z'))).2.2.2) (w : World) : Calls Try.prog 77 #[.agg #[.int .i64 k, .int .i64 x, .int .i64 y, .int .i64 z], .agg #[.int .i64 p1, .int .i64 p2, .int .i64 p3], .agg #[.int .i64 k', .int .i64 x', .int .i64 y', .int .i64 z'], .agg #[.int .i64 q1, .int .i64 q2, .int .i64 q3]] w fun e w' => e = .returned (.tuple #[.agg #[.int .i64 ((outT (sub p1 (hf k x x)) (sub p2 (hf k x y)) (sub p3 (hf k x z)) (add p1 (hf k x x)) (add p2 (hf k x y)) (add p3 (hf k x z)) (sub q1 (hf k' x' x')) (sub q2 (hf k' x' y')) (sub q3 (hf k' x' z')) (add q1 (hf k' x' x')) (add q2 (hf k' x' y')) (add q3 (hf k' x' z'))).1), .int .i64 ((outT (sub p1 (hf k x x)) (sub p2 (hf k x y)) (sub p3 (hf k x z)) (add p1 (hf k x x)) (add p2 (hf k x y)) (add p3 (hf k x z)) (sub q1 (hf k' x' x')) (sub q2 (hf k' x' y')) (sub q3 (hf k' x' z')) (add q1 (hf k' x' x')) (add q2 (hf k' x' y')) (add q3 (hf k' x' z'))).2.1), .int .i64 ((outT (sub p1 (hf k x x)) (sub p2 (hf k x y)) (sub p3 (hf k x z)) (add p1 (hf k x x)) (add p2 (hf k x y)) (add p3 (hf k x z)) (sub q1 (hf k' x' x')) (sub q2 (hf k' x' y')) (sub q3 (hf k' x' z')) (add q1 (hf k' x' x')) (add q2 (hf k' x' y')) (add q3 (hf k' x' z'))).2.2.1)], .int .i64 ((outT (sub p1 (hf k x x)) (sub p2 (hf k x y)) (sub p3 (hf k x z)) (add p1 (hf k x x)) (add p2 (hf k x y)) (add p3 (hf k x z)) (sub q1 (hf k' x' x')) (sub q2 (hf k' x' y')) (sub q3 (hf k' x' z')) (add q1 (hf k' x' x')) (add q2 (hf k' x' y')) (add q3 (hf k' x' z'))).2.2.2), .bool true]) ∧ Below w.heap.size w w' := by
  have hmc := more_cell
  have hmf := more_frozen
  have hml := more_lt
  go_enter Try.func77, Try.ntmps77
  go_wp2_with fail
  refine wp_fresh ?_
  rintro w1 hb1
  have B1_0 : Blk w1 (w.heap.size) _ := Blk.below (by repeat (with_reducible (first | assumption | (apply Blk.at; simp; done) | apply Blk.alloc | apply Blk.drew | apply Blk.drewN | apply Blk.more | apply Blk.put | (apply Blk.far; focus (first | assumption | (apply Ne.symm; assumption) | (simp; done) | (simp <;> omega)))))) hb1
  obtain ⟨z1_0, c1_0, f1_0⟩ := id B1_0
  have B1_1 : Blk w1 (w.heap.size + 1) _ := Blk.below (by repeat (with_reducible (first | assumption | (apply Blk.at; simp; done) | apply Blk.alloc | apply Blk.drew | apply Blk.drewN | apply Blk.more | apply Blk.put | (apply Blk.far; focus (first | assumption | (apply Ne.symm; assumption) | (simp; done) | (simp <;> omega)))))) hb1
  obtain ⟨z1_1, c1_1, f1_1⟩ := id B1_1
  have B1_2 : Blk w1 (w.heap.size + 1 + 1) _ := Blk.below (by repeat (with_reducible (first | assumption | (apply Blk.at; simp; done) | apply Blk.alloc | apply Blk.drew | apply Blk.drewN | apply Blk.more | apply Blk.put | (apply Blk.far; focus (first | assumption | (apply Ne.symm; assumption) | (simp; done) | (simp <;> omega)))))) hb1
  obtain ⟨z1_2, c1_2, f1_2⟩ := id B1_2
  have B1_3 : Blk w1 (w.heap.size + 1 + 1 + 1) _ := Blk.below (by repeat (with_reducible (first | assumption | (apply Blk.at; simp; done) | apply Blk.alloc | apply Blk.drew | apply Blk.drewN | apply Blk.more | apply Blk.put | (apply Blk.far; focus (first | assumption | (apply Ne.symm; assumption) | (simp; done) | (simp <;> omega)))))) hb1
  obtain ⟨z1_3, c1_3, f1_3⟩ := id B1_3
  have B1_4 : Blk w1 (w.heap.size + 1 + 1 + 1 + 1) _ := Blk.below (by repeat (with_reducible (first | assumption | (apply Blk.at; simp; done) | apply Blk.alloc | apply Blk.drew | apply Blk.drewN | apply Blk.more | apply Blk.put | (apply Blk.far; focus (first | assumption | (apply Ne.symm; assumption) | (simp; done) | (simp <;> omega)))))) hb1
  obtain ⟨z1_4, c1_4, f1_4⟩ := id B1_4
  have B1_5 : Blk w1 (w.heap.size + 1 + 1 + 1 + 1 + 1) _ := Blk.below (by repeat (with_reducible (first | assumption | (apply Blk.at; simp; done) | apply Blk.alloc | apply Blk.drew | apply Blk.drewN | apply Blk.more | apply Blk.put | (apply Blk.far; focus (first | assumption | (apply Ne.symm; assumption) | (simp; done) | (simp <;> omega)))))) hb1
  obtain ⟨z1_5, c1_5, f1_5⟩ := id B1_5
  refine region_grow (A := ?A2) 6 [19, 20] (fun _ => #[.int .i64 0, .int .i64 0, .int .i64 0, .int .i64 0, .int .i64 0, .int .i64 0]) (by kernel_rfl) (by kernel_rfl) ?hrun2 ?hq2 ?htail2
  case hq2 =>
    intro w0 hb0
    simp only [List.take_succ_cons, List.take_zero]
    have B0_0 : Blk w0 _ _ := B1_0.below hb0
    obtain ⟨z0_0, c0_0, f0_0⟩ := id B0_0
    have B0_1 : Blk w0 _ _ := B1_1.below hb0
    obtain ⟨z0_1, c0_1, f0_1⟩ := id B0_1
    have B0_2 : Blk w0 _ _ := B1_2.below hb0
    obtain ⟨z0_2, c0_2, f0_2⟩ := id B0_2
    have B0_3 : Blk w0 _ _ := B1_3.below hb0
    obtain ⟨z0_3, c0_3, f0_3⟩ := id B0_3
    have B0_4 : Blk w0 _ _ := B1_4.below hb0
    obtain ⟨z0_4, c0_4, f0_4⟩ := id B0_4
    have B0_5 : Blk w0 _ _ := B1_5.below hb0
    obtain ⟨z0_5, c0_5, f0_5⟩ := id B0_5
    repeat (go_big_quiet_step ((go_at_call 32; exact calls_after (raround_c _ _ _ _ _ _ _ _))))
    refine wpQuiet_nil ?_
    rfl
  case hrun2 =>
    intro j hj
    match j, hj with
    | 0, _ => exact ⟨_, _, rfl, fun a w => by simp [go_sem]; rfl⟩
    | 1, _ => exact ⟨_, _, rfl, fun a w => by simp [go_sem]; rfl⟩
  case htail2 =>
    intro gs w2 hb2 hblk hne
    obtain ⟨G2_0, hg2_0⟩ := hblk 0 (by decide)
    obtain ⟨G2_1, hg2_1⟩ := hblk 1 (by decide)
    have hn2_0_1 := hne 0 1 (by decide) (by decide) (by decide)
    simp only [List.drop_succ_cons, List.drop_zero, List.length_cons, List.length_nil, laySlots]
    clear hblk hne
    generalize gs 0 = g2_0 at *
    generalize gs 1 = g2_1 at *
    have B2_0 : Blk w2 _ _ := B1_0.below hb2
    obtain ⟨z2_0, c2_0, f2_0⟩ := id B2_0
    have B2_1 : Blk w2 _ _ := B1_1.below hb2
    obtain ⟨z2_1, c2_1, f2_1⟩ := id B2_1
    have B2_2 : Blk w2 _ _ := B1_2.below hb2
    obtain ⟨z2_2, c2_2, f2_2⟩ := id B2_2
    have B2_3 : Blk w2 _ _ := B1_3.below hb2
    obtain ⟨z2_3, c2_3, f2_3⟩ := id B2_3
    have B2_4 : Blk w2 _ _ := B1_4.below hb2
    obtain ⟨z2_4, c2_4, f2_4⟩ := id B2_4
    have B2_5 : Blk w2 _ _ := B1_5.below hb2
    obtain ⟨z2_5, c2_5, f2_5⟩ := id B2_5
    obtain ⟨zg2_0, cg2_0, fg2_0⟩ := id G2_0
    have ne2_0_0 : g2_0 ≠ w.heap.size := by omega
    have ne2_0_1 : g2_0 ≠ w.heap.size + 1 := by omega
    have ne2_0_2 : g2_0 ≠ w.heap.size + 1 + 1 := by omega
    have ne2_0_3 : g2_0 ≠ w.heap.size + 1 + 1 + 1 := by omega
    have ne2_0_4 : g2_0 ≠ w.heap.size + 1 + 1 + 1 + 1 := by omega
    have ne2_0_5 : g2_0 ≠ w.heap.size + 1 + 1 + 1 + 1 + 1 := by omega
    obtain ⟨zg2_1, cg2_1, fg2_1⟩ := id G2_1
    have ne2_1_0 : g2_1 ≠ w.heap.size := by omega
    have ne2_1_1 : g2_1 ≠ w.heap.size + 1 := by omega
    have ne2_1_2 : g2_1 ≠ w.heap.size + 1 + 1 := by omega
    have ne2_1_3 : g2_1 ≠ w.heap.size + 1 + 1 + 1 := by omega
    have ne2_1_4 : g2_1 ≠ w.heap.size + 1 + 1 + 1 + 1 := by omega
    have ne2_1_5 : g2_1 ≠ w.heap.size + 1 + 1 + 1 + 1 + 1 := by omega
    go_wp2_with fail
    refine (rmeet_c _ _ _ _ _ _ _ _ _ _ _ _ _).mono ?_
    rintro e w3 ⟨rfl, hb3⟩
    have B3_0 : Blk w3 (w.heap.size) _ := Blk.below (by repeat (with_reducible (first | assumption | (apply Blk.at; simp; done) | apply Blk.alloc | apply Blk.drew | apply Blk.drewN | apply Blk.more | apply Blk.put | (apply Blk.far; focus (first | assumption | (apply Ne.symm; assumption) | (simp; done) | (simp <;> omega)))))) hb3
    obtain ⟨z3_0, c3_0, f3_0⟩ := id B3_0
    have B3_1 : Blk w3 (w.heap.size + 1) _ := Blk.below (by repeat (with_reducible (first | assumption | (apply Blk.at; simp; done) | apply Blk.alloc | apply Blk.drew | apply Blk.drewN | apply Blk.more | apply Blk.put | (apply Blk.far; focus (first | assumption | (apply Ne.symm; assumption) | (simp; done) | (simp <;> omega)))))) hb3
    obtain ⟨z3_1, c3_1, f3_1⟩ := id B3_1
    have B3_2 : Blk w3 (w.heap.size + 1 + 1) _ := Blk.below (by repeat (with_reducible (first | assumption | (apply Blk.at; simp; done) | apply Blk.alloc | apply Blk.drew | apply Blk.drewN | apply Blk.more | apply Blk.put | (apply Blk.far; focus (first | assumption | (apply Ne.symm; assumption) | (simp; done) | (simp <;> omega)))))) hb3
    obtain ⟨z3_2, c3_2, f3_2⟩ := id B3_2
    have B3_3 : Blk w3 (w.heap.size + 1 + 1 + 1) _ := Blk.below (by repeat (with_reducible (first | assumption | (apply Blk.at; simp; done) | apply Blk.alloc | apply Blk.drew | apply Blk.drewN | apply Blk.more | apply Blk.put | (apply Blk.far; focus (first | assumption | (apply Ne.symm; assumption) | (simp; done) | (simp <;> omega)))))) hb3
    obtain ⟨z3_3, c3_3, f3_3⟩ := id B3_3
    have B3_4 : Blk w3 (w.heap.size + 1 + 1 + 1 + 1) _ := Blk.below (by repeat (with_reducible (first | assumption | (apply Blk.at; simp; done) | apply Blk.alloc | apply Blk.drew | apply Blk.drewN | apply Blk.more | apply Blk.put | (apply Blk.far; focus (first | assumption | (apply Ne.symm; assumption) | (simp; done) | (simp <;> omega)))))) hb3
    obtain ⟨z3_4, c3_4, f3_4⟩ := id B3_4
    have B3_5 : Blk w3 (w.heap.size + 1 + 1 + 1 + 1 + 1) _ := Blk.below (by repeat (with_reducible (first | assumption | (apply Blk.at; simp; done) | apply Blk.alloc | apply Blk.drew | apply Blk.drewN | apply Blk.more | apply Blk.put | (apply Blk.far; focus (first | assumption | (apply Ne.symm; assumption) | (simp; done) | (simp <;> omega)))))) hb3
    obtain ⟨z3_5, c3_5, f3_5⟩ := id B3_5
    have B3_6 : Blk w3 (g2_0) _ := Blk.below (by repeat (with_reducible (first | assumption | (apply Blk.at; simp; done) | apply Blk.alloc | apply Blk.drew | apply Blk.drewN | apply Blk.more | apply Blk.put | (apply Blk.far; focus (first | assumption | (apply Ne.symm; assumption) | (simp; done) | (simp <;> omega)))))) hb3
    try simp only [List.setIfInBounds_toArray, List.set_cons_zero, List.set_cons_succ] at B3_6
    obtain ⟨z3_6, c3_6, f3_6⟩ := id B3_6
    have B3_7 : Blk w3 (g2_1) _ := Blk.below (by repeat (with_reducible (first | assumption | (apply Blk.at; simp; done) | apply Blk.alloc | apply Blk.drew | apply Blk.drewN | apply Blk.more | apply Blk.put | (apply Blk.far; focus (first | assumption | (apply Ne.symm; assumption) | (simp; done) | (simp <;> omega)))))) hb3
    try simp only [List.setIfInBounds_toArray, List.set_cons_zero, List.set_cons_succ] at B3_7
    obtain ⟨z3_7, c3_7, f3_7⟩ := id B3_7
    go_wp2_with fail
    refine (rout_c _ _ _ _ _ _ _ _ _ _ _ _ _).mono ?_
    rintro e w4 ⟨rfl, hb4⟩
    have B4_0 : Blk w4 (w.heap.size) _ := Blk.below (by repeat (with_reducible (first | assumption | (apply Blk.at; simp; done) | apply Blk.alloc | apply Blk.drew | apply Blk.drewN | apply Blk.more | apply Blk.put | (apply Blk.far; focus (first | assumption | (apply Ne.symm; assumption) | (simp; done) | (simp <;> omega)))))) hb4
    obtain ⟨z4_0, c4_0, f4_0⟩ := id B4_0
    have B4_1 : Blk w4 (w.heap.size + 1) _ := Blk.below (by repeat (with_reducible (first | assumption | (apply Blk.at; simp; done) | apply Blk.alloc | apply Blk.drew | apply Blk.drewN | apply Blk.more | apply Blk.put | (apply Blk.far; focus (first | assumption | (apply Ne.symm; assumption) | (simp; done) | (simp <;> omega)))))) hb4
    obtain ⟨z4_1, c4_1, f4_1⟩ := id B4_1
    have B4_2 : Blk w4 (w.heap.size + 1 + 1) _ := Blk.below (by repeat (with_reducible (first | assumption | (apply Blk.at; simp; done) | apply Blk.alloc | apply Blk.drew | apply Blk.drewN | apply Blk.more | apply Blk.put | (apply Blk.far; focus (first | assumption | (apply Ne.symm; assumption) | (simp; done) | (simp <;> omega)))))) hb4
    obtain ⟨z4_2, c4_2, f4_2⟩ := id B4_2
    have B4_3 : Blk w4 (w.heap.size + 1 + 1 + 1) _ := Blk.below (by repeat (with_reducible (first | assumption | (apply Blk.at; simp; done) | apply Blk.alloc | apply Blk.drew | apply Blk.drewN | apply Blk.more | apply Blk.put | (apply Blk.far; focus (first | assumption | (apply Ne.symm; assumption) | (simp; done) | (simp <;> omega)))))) hb4
    obtain ⟨z4_3, c4_3, f4_3⟩ := id B4_3
    have B4_4 : Blk w4 (w.heap.size + 1 + 1 + 1 + 1) _ := Blk.below (by repeat (with_reducible (first | assumption | (apply Blk.at; simp; done) | apply Blk.alloc | apply Blk.drew | apply Blk.drewN | apply Blk.more | apply Blk.put | (apply Blk.far; focus (first | assumption | (apply Ne.symm; assumption) | (simp; done) | (simp <;> omega)))))) hb4
    obtain ⟨z4_4, c4_4, f4_4⟩ := id B4_4
    have B4_5 : Blk w4 (w.heap.size + 1 + 1 + 1 + 1 + 1) _ := Blk.below (by repeat (with_reducible (first | assumption | (apply Blk.at; simp; done) | apply Blk.alloc | apply Blk.drew | apply Blk.drewN | apply Blk.more | apply Blk.put | (apply Blk.far; focus (first | assumption | (apply Ne.symm; assumption) | (simp; done) | (simp <;> omega)))))) hb4
    obtain ⟨z4_5, c4_5, f4_5⟩ := id B4_5
    have B4_6 : Blk w4 (g2_0) _ := Blk.below (by repeat (with_reducible (first | assumption | (apply Blk.at; simp; done) | apply Blk.alloc | apply Blk.drew | apply Blk.drewN | apply Blk.more | apply Blk.put | (apply Blk.far; focus (first | assumption | (apply Ne.symm; assumption) | (simp; done) | (simp <;> omega)))))) hb4
    obtain ⟨z4_6, c4_6, f4_6⟩ := id B4_6
    have B4_7 : Blk w4 (g2_1) _ := Blk.below (by repeat (with_reducible (first | assumption | (apply Blk.at; simp; done) | apply Blk.alloc | apply Blk.drew | apply Blk.drewN | apply Blk.more | apply Blk.put | (apply Blk.far; focus (first | assumption | (apply Ne.symm; assumption) | (simp; done) | (simp <;> omega)))))) hb4
    obtain ⟨z4_7, c4_7, f4_7⟩ := id B4_7
    go_wp2
    exact bodyPost_ret (v := .tuple #[.agg #[.int .i64 ((outT (sub p1 (hf k x x)) (sub p2 (hf k x y)) (sub p3 (hf k x z)) (add p1 (hf k x x)) (add p2 (hf k x y)) (add p3 (hf k x z)) (sub q1 (hf k' x' x')) (sub q2 (hf k' x' y')) (sub q3 (hf k' x' z')) (add q1 (hf k' x' x')) (add q2 (hf k' x' y')) (add q3 (hf k' x' z'))).1), .int .i64 ((outT (sub p1 (hf k x x)) (sub p2 (hf k x y)) (sub p3 (hf k x z)) (add p1 (hf k x x)) (add p2 (hf k x y)) (add p3 (hf k x z)) (sub q1 (hf k' x' x')) (sub q2 (hf k' x' y')) (sub q3 (hf k' x' z')) (add q1 (hf k' x' x')) (add q2 (hf k' x' y')) (add q3 (hf k' x' z'))).2.1), .int .i64 ((outT (sub p1 (hf k x x)) (sub p2 (hf k x y)) (sub p3 (hf k x z)) (add p1 (hf k x x)) (add p2 (hf k x y)) (add p3 (hf k x z)) (sub q1 (hf k' x' x')) (sub q2 (hf k' x' y')) (sub q3 (hf k' x' z')) (add q1 (hf k' x' x')) (add q2 (hf k' x' y')) (add q3 (hf k' x' z'))).2.2.1)], .int .i64 ((outT (sub p1 (hf k x x)) (sub p2 (hf k x y)) (sub p3 (hf k x z)) (add p1 (hf k x x)) (add p2 (hf k x y)) (add p3 (hf k x z)) (sub q1 (hf k' x' x')) (sub q2 (hf k' x' y')) (sub q3 (hf k' x' z')) (add q1 (hf k' x' x')) (add q2 (hf k' x' y')) (add q3 (hf k' x' z'))).2.2.2), .bool true]) (by simp [results, Try.results77, go_sem, *]) rfl ⟨rfl, (by repeat (with_reducible (first | exact Below.refl _ _ | assumption | apply ext_drew | apply ext_drewN | apply ext_alloc | apply ext_more | (refine ext_setCell ?_ (by simp <;> omega) _) | (refine ext_below ?_ (by assumption)))))⟩

theorem rtouches_c (k x y z p1 p2 p3 k' x' y' z' q1 q2 q3 : Int) (h1 : shapeB k x y z = true) (h2 : shapeB k' x' y' z' = true) (w : World) : Calls Try.prog 77 #[.agg #[.int .i64 k, .int .i64 x, .int .i64 y, .int .i64 z], .agg #[.int .i64 p1, .int .i64 p2, .int .i64 p3], .agg #[.int .i64 k', .int .i64 x', .int .i64 y', .int .i64 z'], .agg #[.int .i64 q1, .int .i64 q2, .int .i64 q3]] w fun e w' => e = .returned (tup (touchT k x y z p1 p2 p3 k' x' y' z' q1 q2 q3)) ∧ Below w.heap.size w w' := by
  obtain ⟨_, a1, a2, _⟩ := shape_hf h1
  obtain ⟨_, b1, b2, _⟩ := shape_hf h2
  unfold touchT
  by_cases e1 : k = 1
  · rw [if_pos e1]
    by_cases e2 : k' = 1
    · rw [if_pos e2]
      by_cases hd : sub (add x x') (long (sub q1 p1) (sub q2 p2) (sub q3 p3)) ≤ 0
      · rw [tup_no (T := ballsT x p1 p2 p3 x' q1 q2 q3) hd]; exact rt_bb0 k x y z p1 p2 p3 k' x' y' z' q1 q2 q3 (by simpa using e1) (by simpa using e2) hd w
      · rw [tup_yes (T := ballsT x p1 p2 p3 x' q1 q2 q3) (by unfold ballsT deepB; simp only; omega)]; exact rt_bb1 k x y z p1 p2 p3 k' x' y' z' q1 q2 q3 (by simpa using e1) (by simpa using e2) (by omega) w
    · rw [if_neg e2]; exact rt_ba k x y z p1 p2 p3 k' x' y' z' q1 q2 q3 (by simpa using e1) (by simpa using e2) ⟨a1, a2⟩ h2 w
  · rw [if_neg e1]
    by_cases e2 : k' = 1
    · rw [if_pos e2, tup_neg]; exact rt_ab k x y z p1 p2 p3 k' x' y' z' q1 q2 q3 (by simpa using e1) (by simpa using e2) ⟨b1, b2⟩ h1 w
    · rw [if_neg e2]
      unfold blocksAt blocksT
      by_cases hm : meetB (sub p1 (hf k x x)) (sub p2 (hf k x y)) (sub p3 (hf k x z)) (add p1 (hf k x x)) (add p2 (hf k x y)) (add p3 (hf k x z)) (sub q1 (hf k' x' x')) (sub q2 (hf k' x' y')) (sub q3 (hf k' x' z')) (add q1 (hf k' x' x')) (add q2 (hf k' x' y')) (add q3 (hf k' x' z')) = true
      · rw [if_pos hm]
        by_cases hd : (outT (sub p1 (hf k x x)) (sub p2 (hf k x y)) (sub p3 (hf k x z)) (add p1 (hf k x x)) (add p2 (hf k x y)) (add p3 (hf k x z)) (sub q1 (hf k' x' x')) (sub q2 (hf k' x' y')) (sub q3 (hf k' x' z')) (add q1 (hf k' x' x')) (add q2 (hf k' x' y')) (add q3 (hf k' x' z'))).2.2.2 ≤ 0
        · rw [tup_no hd]; exact rt_aa1 k x y z p1 p2 p3 k' x' y' z' q1 q2 q3 (by simpa using e1) (by simpa using e2) hm hd w
        · rw [tup_yes (by omega)]; exact rt_aa2 k x y z p1 p2 p3 k' x' y' z' q1 q2 q3 (by simpa using e1) (by simpa using e2) hm (by omega) w
      · rw [if_neg hm, tup_no (by simp)]; exact rt_aa0 k x y z p1 p2 p3 k' x' y' z' q1 q2 q3 (by simpa using e1) (by simpa using e2) (by simpa using hm) w

end Go.Proofs.Ytfagkbmphohelaa
