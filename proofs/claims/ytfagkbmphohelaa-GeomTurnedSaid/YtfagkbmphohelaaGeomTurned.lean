/- Proved: Rows.GeomTurnedSaid: two shapes touch whichever is the first one, as deep, and, but where ways are as short, the way turned round. Conditions: none. -/
import Derived.Test.YtfagkbmphohelaaTouch5
import Derived.Test.YtfagkbmphohelaaMath2
import Derived.Test.YtfagkbmphohelaaLift
namespace Go.Proofs.Ytfagkbmphohelaa
open Go.ChangeShapes Go.WideShapes Go.ChangeAt Go.RowKit Go.BigFrame

/-! ### the plain law -/
theorem add_comm' (a b : Int) : add a b = add b a := by unfold add; rw [Int.add_comm]
theorem mul_sq_neg (a : Int) : mul (-a) (-a) = mul a a := by unfold mul; rw [mag_neg]; congr 1; cases ng (-a) <;> cases ng a <;> rfl
theorem long_neg (a b c : Int) : long (-a) (-b) (-c) = long a b c := by unfold long dot; rw [mul_sq_neg, mul_sq_neg, mul_sq_neg]
theorem balls_deep (r p1 p2 p3 s q1 q2 q3 : Int) : (ballsT r p1 p2 p3 s q1 q2 q3).2.2.2 = (ballsT s q1 q2 q3 r p1 p2 p3).2.2.2 := by
  unfold ballsT deepB
  simp only
  rw [sub_neg q1 p1, sub_neg q2 p2, sub_neg q3 p3, long_neg, add_comm' r s]
theorem tryS_min (v1 v2 v3 d : Int) (s : Int × Int × Int × Int) : (tryS v1 v2 v3 d s).2.2.2 = min d s.2.2.2 := by unfold tryS pk; simp only; split <;> omega
theorem out_deep (a1 a2 a3 a4 a5 a6 b1 b2 b3 b4 b5 b6 : Int) : (outT a1 a2 a3 a4 a5 a6 b1 b2 b3 b4 b5 b6).2.2.2 = (outT b1 b2 b3 b4 b5 b6 a1 a2 a3 a4 a5 a6).2.2.2 := by
  unfold outT
  simp only [tryS_min]
  omega
theorem meet_sym (a1 a2 a3 a4 a5 a6 b1 b2 b3 b4 b5 b6 : Int) : meetB a1 a2 a3 a4 a5 a6 b1 b2 b3 b4 b5 b6 = meetB b1 b2 b3 b4 b5 b6 a1 a2 a3 a4 a5 a6 := by
  unfold meetB
  rw [Bool.eq_iff_iff]
  simp only [Bool.and_eq_true, decide_eq_true_eq]
  omega
theorem blocks_deep (a1 a2 a3 a4 a5 a6 b1 b2 b3 b4 b5 b6 : Int) : (blocksT a1 a2 a3 a4 a5 a6 b1 b2 b3 b4 b5 b6).2.2.2 = (blocksT b1 b2 b3 b4 b5 b6 a1 a2 a3 a4 a5 a6).2.2.2 := by
  unfold blocksT
  rw [meet_sym a1]
  split
  · exact out_deep a1 a2 a3 a4 a5 a6 b1 b2 b3 b4 b5 b6
  · rfl
theorem td_of {T U : Int × Int × Int × Int} (h : T.2.2.2 = U.2.2.2) : td T = td U ∧ tk T = tk U := by unfold td tk; rw [h]; exact ⟨rfl, rfl⟩
/-- of one kind -/
theorem turned_same (k x y z p1 p2 p3 k' x' y' z' q1 q2 q3 : Int) (h : k = k') : td (touchT k x y z p1 p2 p3 k' x' y' z' q1 q2 q3) = td (touchT k' x' y' z' q1 q2 q3 k x y z p1 p2 p3) ∧ tk (touchT k x y z p1 p2 p3 k' x' y' z' q1 q2 q3) = tk (touchT k' x' y' z' q1 q2 q3 k x y z p1 p2 p3) := by
  subst h
  unfold touchT
  by_cases e : k = 1
  · simp only [if_pos e]; exact td_of (balls_deep _ _ _ _ _ _ _ _)
  · simp only [if_neg e]; exact td_of (blocks_deep _ _ _ _ _ _ _ _ _ _ _ _)
theorem negT_negT (T : Int × Int × Int × Int) : negT (negT T) = T := by unfold negT; simp
/-- of two kinds -/
theorem turned_mixed (k x y z p1 p2 p3 k' x' y' z' q1 q2 q3 : Int) (h : k ≠ k') (h1 : k = 1 ∨ k = 2) (h2 : k' = 1 ∨ k' = 2) : touchT k' x' y' z' q1 q2 q3 k x y z p1 p2 p3 = negT (touchT k x y z p1 p2 p3 k' x' y' z' q1 q2 q3) := by
  unfold touchT
  rcases h1 with rfl | rfl <;> rcases h2 with rfl | rfl
  · exact absurd rfl h
  · simp
  · simp [negT_negT]
  · exact absurd rfl h
theorem neg_wb {T : Int × Int × Int × Int} (h : WB T) : WB (negT T) := by unfold WB negT at *; simp only; omega
theorem touchT_wb (k x y z p1 p2 p3 k' x' y' z' q1 q2 q3 : Int) : WB (touchT k x y z p1 p2 p3 k' x' y' z' q1 q2 q3) := by
  unfold touchT
  split
  · split
    · exact unit_bd _ _ _
    · exact ballT_wb _ _ _ _ _ _ _ _ _ _
  · split
    · exact neg_wb (ballT_wb _ _ _ _ _ _ _ _ _ _)
    · unfold blocksAt blocksT
      split
      · exact outT_wb _ _ _ _ _ _ _ _ _ _ _ _
      · unfold WB; simp

theorem gt_l (k x y z p1 p2 p3 k' x' y' z' q1 q2 q3 : Int) (h1 : shapeB k x y z = true) (h2 : shapeB k' x' y' z' = true) (w : World) : Calls Try.prog 76 #[.agg #[.int .i64 k, .int .i64 x, .int .i64 y, .int .i64 z], .agg #[.int .i64 p1, .int .i64 p2, .int .i64 p3], .agg #[.int .i64 k', .int .i64 x', .int .i64 y', .int .i64 z'], .agg #[.int .i64 q1, .int .i64 q2, .int .i64 q3]] w fun e w' => e = .returned (.tuple #[.agg #[.int .i64 (tx (touchT k x y z p1 p2 p3 k' x' y' z' q1 q2 q3)), .int .i64 (ty (touchT k x y z p1 p2 p3 k' x' y' z' q1 q2 q3)), .int .i64 (tz (touchT k x y z p1 p2 p3 k' x' y' z' q1 q2 q3))], .int .i64 (td (touchT k x y z p1 p2 p3 k' x' y' z' q1 q2 q3)), .bool (tk (touchT k x y z p1 p2 p3 k' x' y' z' q1 q2 q3))]) ∧ Below w.heap.size w w' := touches_c k x y z p1 p2 p3 k' x' y' z' q1 q2 q3 h1 h2 w
theorem gt_s (k x y z p1 p2 p3 k' x' y' z' q1 q2 q3 : Int) (h1 : shapeB k x y z = true) (h2 : shapeB k' x' y' z' = true) (h : k = k') (w : World) : Calls Try.prog 76 #[.agg #[.int .i64 k', .int .i64 x', .int .i64 y', .int .i64 z'], .agg #[.int .i64 q1, .int .i64 q2, .int .i64 q3], .agg #[.int .i64 k, .int .i64 x, .int .i64 y, .int .i64 z], .agg #[.int .i64 p1, .int .i64 p2, .int .i64 p3]] w fun e w' => e = .returned (.tuple #[.agg #[.int .i64 (tx (touchT k' x' y' z' q1 q2 q3 k x y z p1 p2 p3)), .int .i64 (ty (touchT k' x' y' z' q1 q2 q3 k x y z p1 p2 p3)), .int .i64 (tz (touchT k' x' y' z' q1 q2 q3 k x y z p1 p2 p3))], .int .i64 (td (touchT k x y z p1 p2 p3 k' x' y' z' q1 q2 q3)), .bool (tk (touchT k x y z p1 p2 p3 k' x' y' z' q1 q2 q3))]) ∧ Below w.heap.size w w' := by
  have := touches_c k' x' y' z' q1 q2 q3 k x y z p1 p2 p3 h2 h1 w
  unfold tup at this
  rw [← (turned_same k x y z p1 p2 p3 k' x' y' z' q1 q2 q3 h).1, ← (turned_same k x y z p1 p2 p3 k' x' y' z' q1 q2 q3 h).2] at this
  exact this

theorem gt_m (k x y z p1 p2 p3 k' x' y' z' q1 q2 q3 : Int) (h1 : shapeB k x y z = true) (h2 : shapeB k' x' y' z' = true) (h : k ≠ k') (w : World) : Calls Try.prog 76 #[.agg #[.int .i64 k', .int .i64 x', .int .i64 y', .int .i64 z'], .agg #[.int .i64 q1, .int .i64 q2, .int .i64 q3], .agg #[.int .i64 k, .int .i64 x, .int .i64 y, .int .i64 z], .agg #[.int .i64 p1, .int .i64 p2, .int .i64 p3]] w fun e w' => e = .returned (.tuple #[.agg #[.int .i64 (-tx (touchT k x y z p1 p2 p3 k' x' y' z' q1 q2 q3)), .int .i64 (-ty (touchT k x y z p1 p2 p3 k' x' y' z' q1 q2 q3)), .int .i64 (-tz (touchT k x y z p1 p2 p3 k' x' y' z' q1 q2 q3))], .int .i64 (td (touchT k x y z p1 p2 p3 k' x' y' z' q1 q2 q3)), .bool (tk (touchT k x y z p1 p2 p3 k' x' y' z' q1 q2 q3))]) ∧ Below w.heap.size w w' := by
  have := touches_c k' x' y' z' q1 q2 q3 k x y z p1 p2 p3 h2 h1 w
  rw [turned_mixed k x y z p1 p2 p3 k' x' y' z' q1 q2 q3 h (shape_hf h1).1 (shape_hf h2).1, tup_neg] at this
  exact this

theorem tt_l (w : World) : Calls Try.prog 76 #[.agg #[.int .i64 1, .int .i64 65536, .int .i64 0, .int .i64 0], .agg #[.int .i64 0, .int .i64 0, .int .i64 0], .agg #[.int .i64 1, .int .i64 65536, .int .i64 0, .int .i64 0], .agg #[.int .i64 65536, .int .i64 0, .int .i64 0]] w fun e w' => e = .returned (.tuple #[.agg #[.int .i64 65536, .int .i64 0, .int .i64 0], .int .i64 65536, .bool true]) ∧ Below w.heap.size w w' := by
  have h := touches_c 1 65536 0 0 0 0 0 1 65536 0 0 65536 0 0 (by decide +kernel) (by decide +kernel) w
  rw [show touchT 1 65536 0 0 0 0 0 1 65536 0 0 65536 0 0 = (65536, 0, 0, 65536) by decide +kernel] at h
  exact h

set_option maxHeartbeats 2000000 in
theorem touched_c (w : World) : Calls Try.prog 82 #[] w fun e w' => e = .returned (.bool true) ∧ Below w.heap.size w w' := by
  have hmc := more_cell
  have hmf := more_frozen
  have hml := more_lt
  go_enter Try.func82, Try.ntmps82
  go_wp2_with fail
  refine (tt_l _).mono ?_
  rintro e w1 ⟨rfl, hb1⟩
  have B1_0 : Blk w1 (w.heap.size) _ := Blk.below (by repeat (with_reducible (first | assumption | (apply Blk.at; simp; done) | apply Blk.alloc | apply Blk.drew | apply Blk.drewN | apply Blk.more | apply Blk.put | (apply Blk.far; focus (first | assumption | (apply Ne.symm; assumption) | (simp; done) | (simp <;> omega)))))) hb1
  try simp only [List.setIfInBounds_toArray, List.set_cons_zero, List.set_cons_succ] at B1_0
  obtain ⟨z1_0, c1_0, f1_0⟩ := id B1_0
  go_wp2
  exact bodyPost_ret (v := .bool true) (by simp [results, Try.results82, go_sem, *]) rfl ⟨rfl, (by repeat (with_reducible (first | exact Below.refl _ _ | assumption | apply ext_drew | apply ext_drewN | apply ext_alloc | apply ext_more | (refine ext_setCell ?_ (by simp <;> omega) _) | (refine ext_below ?_ (by assumption)))))⟩

set_option maxHeartbeats 4000000 in
theorem tu0 (k x y z p1 p2 p3 k' x' y' z' q1 q2 q3 : Int) (s1 : shapeB k x y z = false) (w : World) : Calls Try.prog 13 #[.agg #[.int .i64 k, .int .i64 x, .int .i64 y, .int .i64 z], .agg #[.int .i64 p1, .int .i64 p2, .int .i64 p3], .agg #[.int .i64 k', .int .i64 x', .int .i64 y', .int .i64 z'], .agg #[.int .i64 q1, .int .i64 q2, .int .i64 q3]] w fun e w' => e = .returned (.bool true) ∧ Below w.heap.size w w' := by
  have hmc := more_cell
  have hmf := more_frozen
  have hml := more_lt
  go_enter Try.func13, Try.ntmps13
  go_wp2_with fail
  refine (touched_c _).mono ?_
  rintro e w1 ⟨rfl, hb1⟩
  have B1_0 : Blk w1 (w.heap.size) _ := Blk.below (by repeat (with_reducible (first | assumption | (apply Blk.at; simp; done) | apply Blk.alloc | apply Blk.drew | apply Blk.drewN | apply Blk.more | apply Blk.put | (apply Blk.far; focus (first | assumption | (apply Ne.symm; assumption) | (simp; done) | (simp <;> omega)))))) hb1
  obtain ⟨z1_0, c1_0, f1_0⟩ := id B1_0
  have B1_1 : Blk w1 (w.heap.size + 1) _ := Blk.below (by repeat (with_reducible (first | assumption | (apply Blk.at; simp; done) | apply Blk.alloc | apply Blk.drew | apply Blk.drewN | apply Blk.more | apply Blk.put | (apply Blk.far; focus (first | assumption | (apply Ne.symm; assumption) | (simp; done) | (simp <;> omega)))))) hb1
  obtain ⟨z1_1, c1_1, f1_1⟩ := id B1_1
  have B1_2 : Blk w1 (w.heap.size + 1 + 1) _ := Blk.below (by repeat (with_reducible (first | assumption | (apply Blk.at; simp; done) | apply Blk.alloc | apply Blk.drew | apply Blk.drewN | apply Blk.more | apply Blk.put | (apply Blk.far; focus (first | assumption | (apply Ne.symm; assumption) | (simp; done) | (simp <;> omega)))))) hb1
  obtain ⟨z1_2, c1_2, f1_2⟩ := id B1_2
  have B1_3 : Blk w1 (w.heap.size + 1 + 1 + 1) _ := Blk.below (by repeat (with_reducible (first | assumption | (apply Blk.at; simp; done) | apply Blk.alloc | apply Blk.drew | apply Blk.drewN | apply Blk.more | apply Blk.put | (apply Blk.far; focus (first | assumption | (apply Ne.symm; assumption) | (simp; done) | (simp <;> omega)))))) hb1
  obtain ⟨z1_3, c1_3, f1_3⟩ := id B1_3
  go_wp2_with fail
  refine region_quiet_but 4 (by kernel_rfl) (by kernel_rfl) ?_
  simp only [List.take_succ_cons, List.take_zero, List.drop_succ_cons, List.drop_zero]
  repeat (go_big_quiet_step ((go_at_call 70; exact calls_after (clamp_c _ _ _ 65536000 (by decide) _))))
  refine wpQuiet_nil ?_
  rintro w2 hw2
  have hb2 := after_below hw2
  clear hw2
  have B2_0 : Blk w2 (w.heap.size) _ := Blk.below (by repeat (with_reducible (first | assumption | (apply Blk.at; simp; done) | apply Blk.alloc | apply Blk.drew | apply Blk.drewN | apply Blk.more | apply Blk.put | (apply Blk.far; focus (first | assumption | (apply Ne.symm; assumption) | (simp; done) | (simp <;> omega)))))) hb2
  obtain ⟨z2_0, c2_0, f2_0⟩ := id B2_0
  have B2_1 : Blk w2 (w.heap.size + 1) _ := Blk.below (by repeat (with_reducible (first | assumption | (apply Blk.at; simp; done) | apply Blk.alloc | apply Blk.drew | apply Blk.drewN | apply Blk.more | apply Blk.put | (apply Blk.far; focus (first | assumption | (apply Ne.symm; assumption) | (simp; done) | (simp <;> omega)))))) hb2
  obtain ⟨z2_1, c2_1, f2_1⟩ := id B2_1
  have B2_2 : Blk w2 (w.heap.size + 1 + 1) _ := Blk.below (by repeat (with_reducible (first | assumption | (apply Blk.at; simp; done) | apply Blk.alloc | apply Blk.drew | apply Blk.drewN | apply Blk.more | apply Blk.put | (apply Blk.far; focus (first | assumption | (apply Ne.symm; assumption) | (simp; done) | (simp <;> omega)))))) hb2
  obtain ⟨z2_2, c2_2, f2_2⟩ := id B2_2
  have B2_3 : Blk w2 (w.heap.size + 1 + 1 + 1) _ := Blk.below (by repeat (with_reducible (first | assumption | (apply Blk.at; simp; done) | apply Blk.alloc | apply Blk.drew | apply Blk.drewN | apply Blk.more | apply Blk.put | (apply Blk.far; focus (first | assumption | (apply Ne.symm; assumption) | (simp; done) | (simp <;> omega)))))) hb2
  obtain ⟨z2_3, c2_3, f2_3⟩ := id B2_3
  go_wp2_with fail
  refine (right_c _ _ _ _ _).mono ?_
  rintro e w3 ⟨rfl, hb3⟩
  have B3_0 : Blk w3 (w.heap.size) _ := Blk.below (by repeat (with_reducible (first | assumption | (apply Blk.at; simp; done) | apply Blk.alloc | apply Blk.drew | apply Blk.drewN | apply Blk.more | apply Blk.put | (apply Blk.far; focus (first | assumption | (apply Ne.symm; assumption) | (simp; done) | (simp <;> omega)))))) hb3
  obtain ⟨z3_0, c3_0, f3_0⟩ := id B3_0
  have B3_1 : Blk w3 (w.heap.size + 1) _ := Blk.below (by repeat (with_reducible (first | assumption | (apply Blk.at; simp; done) | apply Blk.alloc | apply Blk.drew | apply Blk.drewN | apply Blk.more | apply Blk.put | (apply Blk.far; focus (first | assumption | (apply Ne.symm; assumption) | (simp; done) | (simp <;> omega)))))) hb3
  try simp only [List.setIfInBounds_toArray, List.set_cons_zero, List.set_cons_succ] at B3_1
  obtain ⟨z3_1, c3_1, f3_1⟩ := id B3_1
  have B3_2 : Blk w3 (w.heap.size + 1 + 1) _ := Blk.below (by repeat (with_reducible (first | assumption | (apply Blk.at; simp; done) | apply Blk.alloc | apply Blk.drew | apply Blk.drewN | apply Blk.more | apply Blk.put | (apply Blk.far; focus (first | assumption | (apply Ne.symm; assumption) | (simp; done) | (simp <;> omega)))))) hb3
  obtain ⟨z3_2, c3_2, f3_2⟩ := id B3_2
  have B3_3 : Blk w3 (w.heap.size + 1 + 1 + 1) _ := Blk.below (by repeat (with_reducible (first | assumption | (apply Blk.at; simp; done) | apply Blk.alloc | apply Blk.drew | apply Blk.drewN | apply Blk.more | apply Blk.put | (apply Blk.far; focus (first | assumption | (apply Ne.symm; assumption) | (simp; done) | (simp <;> omega)))))) hb3
  try simp only [List.setIfInBounds_toArray, List.set_cons_zero, List.set_cons_succ] at B3_3
  obtain ⟨z3_3, c3_3, f3_3⟩ := id B3_3
  go_wp2
  exact bodyPost_ret (v := .bool true) (by simp [results, Try.results13, go_sem, *]) rfl ⟨rfl, (by repeat (with_reducible (first | exact Below.refl _ _ | assumption | apply ext_drew | apply ext_drewN | apply ext_alloc | apply ext_more | (refine ext_setCell ?_ (by simp <;> omega) _) | (refine ext_below ?_ (by assumption)))))⟩

set_option maxHeartbeats 4000000 in
theorem tu1 (k x y z p1 p2 p3 k' x' y' z' q1 q2 q3 : Int) (s1 : shapeB k x y z = true) (s2 : shapeB k' x' y' z' = false) (w : World) : Calls Try.prog 13 #[.agg #[.int .i64 k, .int .i64 x, .int .i64 y, .int .i64 z], .agg #[.int .i64 p1, .int .i64 p2, .int .i64 p3], .agg #[.int .i64 k', .int .i64 x', .int .i64 y', .int .i64 z'], .agg #[.int .i64 q1, .int .i64 q2, .int .i64 q3]] w fun e w' => e = .returned (.bool true) ∧ Below w.heap.size w w' := by
  have hmc := more_cell
  have hmf := more_frozen
  have hml := more_lt
  go_enter Try.func13, Try.ntmps13
  go_wp2_with fail
  refine (touched_c _).mono ?_
  rintro e w1 ⟨rfl, hb1⟩
  have B1_0 : Blk w1 (w.heap.size) _ := Blk.below (by repeat (with_reducible (first | assumption | (apply Blk.at; simp; done) | apply Blk.alloc | apply Blk.drew | apply Blk.drewN | apply Blk.more | apply Blk.put | (apply Blk.far; focus (first | assumption | (apply Ne.symm; assumption) | (simp; done) | (simp <;> omega)))))) hb1
  obtain ⟨z1_0, c1_0, f1_0⟩ := id B1_0
  have B1_1 : Blk w1 (w.heap.size + 1) _ := Blk.below (by repeat (with_reducible (first | assumption | (apply Blk.at; simp; done) | apply Blk.alloc | apply Blk.drew | apply Blk.drewN | apply Blk.more | apply Blk.put | (apply Blk.far; focus (first | assumption | (apply Ne.symm; assumption) | (simp; done) | (simp <;> omega)))))) hb1
  obtain ⟨z1_1, c1_1, f1_1⟩ := id B1_1
  have B1_2 : Blk w1 (w.heap.size + 1 + 1) _ := Blk.below (by repeat (with_reducible (first | assumption | (apply Blk.at; simp; done) | apply Blk.alloc | apply Blk.drew | apply Blk.drewN | apply Blk.more | apply Blk.put | (apply Blk.far; focus (first | assumption | (apply Ne.symm; assumption) | (simp; done) | (simp <;> omega)))))) hb1
  obtain ⟨z1_2, c1_2, f1_2⟩ := id B1_2
  have B1_3 : Blk w1 (w.heap.size + 1 + 1 + 1) _ := Blk.below (by repeat (with_reducible (first | assumption | (apply Blk.at; simp; done) | apply Blk.alloc | apply Blk.drew | apply Blk.drewN | apply Blk.more | apply Blk.put | (apply Blk.far; focus (first | assumption | (apply Ne.symm; assumption) | (simp; done) | (simp <;> omega)))))) hb1
  obtain ⟨z1_3, c1_3, f1_3⟩ := id B1_3
  go_wp2_with fail
  refine region_quiet_but 4 (by kernel_rfl) (by kernel_rfl) ?_
  simp only [List.take_succ_cons, List.take_zero, List.drop_succ_cons, List.drop_zero]
  repeat (go_big_quiet_step ((go_at_call 70; exact calls_after (clamp_c _ _ _ 65536000 (by decide) _))))
  refine wpQuiet_nil ?_
  rintro w2 hw2
  have hb2 := after_below hw2
  clear hw2
  have B2_0 : Blk w2 (w.heap.size) _ := Blk.below (by repeat (with_reducible (first | assumption | (apply Blk.at; simp; done) | apply Blk.alloc | apply Blk.drew | apply Blk.drewN | apply Blk.more | apply Blk.put | (apply Blk.far; focus (first | assumption | (apply Ne.symm; assumption) | (simp; done) | (simp <;> omega)))))) hb2
  obtain ⟨z2_0, c2_0, f2_0⟩ := id B2_0
  have B2_1 : Blk w2 (w.heap.size + 1) _ := Blk.below (by repeat (with_reducible (first | assumption | (apply Blk.at; simp; done) | apply Blk.alloc | apply Blk.drew | apply Blk.drewN | apply Blk.more | apply Blk.put | (apply Blk.far; focus (first | assumption | (apply Ne.symm; assumption) | (simp; done) | (simp <;> omega)))))) hb2
  obtain ⟨z2_1, c2_1, f2_1⟩ := id B2_1
  have B2_2 : Blk w2 (w.heap.size + 1 + 1) _ := Blk.below (by repeat (with_reducible (first | assumption | (apply Blk.at; simp; done) | apply Blk.alloc | apply Blk.drew | apply Blk.drewN | apply Blk.more | apply Blk.put | (apply Blk.far; focus (first | assumption | (apply Ne.symm; assumption) | (simp; done) | (simp <;> omega)))))) hb2
  obtain ⟨z2_2, c2_2, f2_2⟩ := id B2_2
  have B2_3 : Blk w2 (w.heap.size + 1 + 1 + 1) _ := Blk.below (by repeat (with_reducible (first | assumption | (apply Blk.at; simp; done) | apply Blk.alloc | apply Blk.drew | apply Blk.drewN | apply Blk.more | apply Blk.put | (apply Blk.far; focus (first | assumption | (apply Ne.symm; assumption) | (simp; done) | (simp <;> omega)))))) hb2
  obtain ⟨z2_3, c2_3, f2_3⟩ := id B2_3
  go_wp2_with fail
  refine (right_c _ _ _ _ _).mono ?_
  rintro e w3 ⟨rfl, hb3⟩
  have B3_0 : Blk w3 (w.heap.size) _ := Blk.below (by repeat (with_reducible (first | assumption | (apply Blk.at; simp; done) | apply Blk.alloc | apply Blk.drew | apply Blk.drewN | apply Blk.more | apply Blk.put | (apply Blk.far; focus (first | assumption | (apply Ne.symm; assumption) | (simp; done) | (simp <;> omega)))))) hb3
  obtain ⟨z3_0, c3_0, f3_0⟩ := id B3_0
  have B3_1 : Blk w3 (w.heap.size + 1) _ := Blk.below (by repeat (with_reducible (first | assumption | (apply Blk.at; simp; done) | apply Blk.alloc | apply Blk.drew | apply Blk.drewN | apply Blk.more | apply Blk.put | (apply Blk.far; focus (first | assumption | (apply Ne.symm; assumption) | (simp; done) | (simp <;> omega)))))) hb3
  try simp only [List.setIfInBounds_toArray, List.set_cons_zero, List.set_cons_succ] at B3_1
  obtain ⟨z3_1, c3_1, f3_1⟩ := id B3_1
  have B3_2 : Blk w3 (w.heap.size + 1 + 1) _ := Blk.below (by repeat (with_reducible (first | assumption | (apply Blk.at; simp; done) | apply Blk.alloc | apply Blk.drew | apply Blk.drewN | apply Blk.more | apply Blk.put | (apply Blk.far; focus (first | assumption | (apply Ne.symm; assumption) | (simp; done) | (simp <;> omega)))))) hb3
  obtain ⟨z3_2, c3_2, f3_2⟩ := id B3_2
  have B3_3 : Blk w3 (w.heap.size + 1 + 1 + 1) _ := Blk.below (by repeat (with_reducible (first | assumption | (apply Blk.at; simp; done) | apply Blk.alloc | apply Blk.drew | apply Blk.drewN | apply Blk.more | apply Blk.put | (apply Blk.far; focus (first | assumption | (apply Ne.symm; assumption) | (simp; done) | (simp <;> omega)))))) hb3
  try simp only [List.setIfInBounds_toArray, List.set_cons_zero, List.set_cons_succ] at B3_3
  obtain ⟨z3_3, c3_3, f3_3⟩ := id B3_3
  go_wp2_with fail
  refine (right_c _ _ _ _ _).mono ?_
  rintro e w4 ⟨rfl, hb4⟩
  have B4_0 : Blk w4 (w.heap.size) _ := Blk.below (by repeat (with_reducible (first | assumption | (apply Blk.at; simp; done) | apply Blk.alloc | apply Blk.drew | apply Blk.drewN | apply Blk.more | apply Blk.put | (apply Blk.far; focus (first | assumption | (apply Ne.symm; assumption) | (simp; done) | (simp <;> omega)))))) hb4
  obtain ⟨z4_0, c4_0, f4_0⟩ := id B4_0
  have B4_1 : Blk w4 (w.heap.size + 1) _ := Blk.below (by repeat (with_reducible (first | assumption | (apply Blk.at; simp; done) | apply Blk.alloc | apply Blk.drew | apply Blk.drewN | apply Blk.more | apply Blk.put | (apply Blk.far; focus (first | assumption | (apply Ne.symm; assumption) | (simp; done) | (simp <;> omega)))))) hb4
  obtain ⟨z4_1, c4_1, f4_1⟩ := id B4_1
  have B4_2 : Blk w4 (w.heap.size + 1 + 1) _ := Blk.below (by repeat (with_reducible (first | assumption | (apply Blk.at; simp; done) | apply Blk.alloc | apply Blk.drew | apply Blk.drewN | apply Blk.more | apply Blk.put | (apply Blk.far; focus (first | assumption | (apply Ne.symm; assumption) | (simp; done) | (simp <;> omega)))))) hb4
  obtain ⟨z4_2, c4_2, f4_2⟩ := id B4_2
  have B4_3 : Blk w4 (w.heap.size + 1 + 1 + 1) _ := Blk.below (by repeat (with_reducible (first | assumption | (apply Blk.at; simp; done) | apply Blk.alloc | apply Blk.drew | apply Blk.drewN | apply Blk.more | apply Blk.put | (apply Blk.far; focus (first | assumption | (apply Ne.symm; assumption) | (simp; done) | (simp <;> omega)))))) hb4
  obtain ⟨z4_3, c4_3, f4_3⟩ := id B4_3
  go_wp2
  exact bodyPost_ret (v := .bool true) (by simp [results, Try.results13, go_sem, *]) rfl ⟨rfl, (by repeat (with_reducible (first | exact Below.refl _ _ | assumption | apply ext_drew | apply ext_drewN | apply ext_alloc | apply ext_more | (refine ext_setCell ?_ (by simp <;> omega) _) | (refine ext_below ?_ (by assumption)))))⟩

set_option maxHeartbeats 4000000 in
theorem tu2 (k x y z p1 p2 p3 k' x' y' z' q1 q2 q3 : Int) (s1 : shapeB k x y z = true) (s2 : shapeB k' x' y' z' = true) (HK : Hid (k = k')) (hk : (k != k') = false) (w : World) : Calls Try.prog 13 #[.agg #[.int .i64 k, .int .i64 x, .int .i64 y, .int .i64 z], .agg #[.int .i64 p1, .int .i64 p2, .int .i64 p3], .agg #[.int .i64 k', .int .i64 x', .int .i64 y', .int .i64 z'], .agg #[.int .i64 q1, .int .i64 q2, .int .i64 q3]] w fun e w' => e = .returned (.bool true) ∧ Below w.heap.size w w' := by
  have hmc := more_cell
  have hmf := more_frozen
  have hml := more_lt
  have H1 := Lib.hid s1
  have H2 := Lib.hid s2
  go_enter Try.func13, Try.ntmps13
  go_wp2_with fail
  refine (touched_c _).mono ?_
  rintro e w1 ⟨rfl, hb1⟩
  have B1_0 : Blk w1 (w.heap.size) _ := Blk.below (by repeat (with_reducible (first | assumption | (apply Blk.at; simp; done) | apply Blk.alloc | apply Blk.drew | apply Blk.drewN | apply Blk.more | apply Blk.put | (apply Blk.far; focus (first | assumption | (apply Ne.symm; assumption) | (simp; done) | (simp <;> omega)))))) hb1
  obtain ⟨z1_0, c1_0, f1_0⟩ := id B1_0
  have B1_1 : Blk w1 (w.heap.size + 1) _ := Blk.below (by repeat (with_reducible (first | assumption | (apply Blk.at; simp; done) | apply Blk.alloc | apply Blk.drew | apply Blk.drewN | apply Blk.more | apply Blk.put | (apply Blk.far; focus (first | assumption | (apply Ne.symm; assumption) | (simp; done) | (simp <;> omega)))))) hb1
  obtain ⟨z1_1, c1_1, f1_1⟩ := id B1_1
  have B1_2 : Blk w1 (w.heap.size + 1 + 1) _ := Blk.below (by repeat (with_reducible (first | assumption | (apply Blk.at; simp; done) | apply Blk.alloc | apply Blk.drew | apply Blk.drewN | apply Blk.more | apply Blk.put | (apply Blk.far; focus (first | assumption | (apply Ne.symm; assumption) | (simp; done) | (simp <;> omega)))))) hb1
  obtain ⟨z1_2, c1_2, f1_2⟩ := id B1_2
  have B1_3 : Blk w1 (w.heap.size + 1 + 1 + 1) _ := Blk.below (by repeat (with_reducible (first | assumption | (apply Blk.at; simp; done) | apply Blk.alloc | apply Blk.drew | apply Blk.drewN | apply Blk.more | apply Blk.put | (apply Blk.far; focus (first | assumption | (apply Ne.symm; assumption) | (simp; done) | (simp <;> omega)))))) hb1
  obtain ⟨z1_3, c1_3, f1_3⟩ := id B1_3
  go_wp2_with fail
  refine region_quiet_but 4 (by kernel_rfl) (by kernel_rfl) ?_
  simp only [List.take_succ_cons, List.take_zero, List.drop_succ_cons, List.drop_zero]
  repeat (go_big_quiet_step ((go_at_call 70; exact calls_after (clamp_c _ _ _ 65536000 (by decide) _))))
  refine wpQuiet_nil ?_
  rintro w2 hw2
  have hb2 := after_below hw2
  clear hw2
  have B2_0 : Blk w2 (w.heap.size) _ := Blk.below (by repeat (with_reducible (first | assumption | (apply Blk.at; simp; done) | apply Blk.alloc | apply Blk.drew | apply Blk.drewN | apply Blk.more | apply Blk.put | (apply Blk.far; focus (first | assumption | (apply Ne.symm; assumption) | (simp; done) | (simp <;> omega)))))) hb2
  obtain ⟨z2_0, c2_0, f2_0⟩ := id B2_0
  have B2_1 : Blk w2 (w.heap.size + 1) _ := Blk.below (by repeat (with_reducible (first | assumption | (apply Blk.at; simp; done) | apply Blk.alloc | apply Blk.drew | apply Blk.drewN | apply Blk.more | apply Blk.put | (apply Blk.far; focus (first | assumption | (apply Ne.symm; assumption) | (simp; done) | (simp <;> omega)))))) hb2
  obtain ⟨z2_1, c2_1, f2_1⟩ := id B2_1
  have B2_2 : Blk w2 (w.heap.size + 1 + 1) _ := Blk.below (by repeat (with_reducible (first | assumption | (apply Blk.at; simp; done) | apply Blk.alloc | apply Blk.drew | apply Blk.drewN | apply Blk.more | apply Blk.put | (apply Blk.far; focus (first | assumption | (apply Ne.symm; assumption) | (simp; done) | (simp <;> omega)))))) hb2
  obtain ⟨z2_2, c2_2, f2_2⟩ := id B2_2
  have B2_3 : Blk w2 (w.heap.size + 1 + 1 + 1) _ := Blk.below (by repeat (with_reducible (first | assumption | (apply Blk.at; simp; done) | apply Blk.alloc | apply Blk.drew | apply Blk.drewN | apply Blk.more | apply Blk.put | (apply Blk.far; focus (first | assumption | (apply Ne.symm; assumption) | (simp; done) | (simp <;> omega)))))) hb2
  obtain ⟨z2_3, c2_3, f2_3⟩ := id B2_3
  go_wp2_with fail
  refine (right_c _ _ _ _ _).mono ?_
  rintro e w3 ⟨rfl, hb3⟩
  have B3_0 : Blk w3 (w.heap.size) _ := Blk.below (by repeat (with_reducible (first | assumption | (apply Blk.at; simp; done) | apply Blk.alloc | apply Blk.drew | apply Blk.drewN | apply Blk.more | apply Blk.put | (apply Blk.far; focus (first | assumption | (apply Ne.symm; assumption) | (simp; done) | (simp <;> omega)))))) hb3
  obtain ⟨z3_0, c3_0, f3_0⟩ := id B3_0
  have B3_1 : Blk w3 (w.heap.size + 1) _ := Blk.below (by repeat (with_reducible (first | assumption | (apply Blk.at; simp; done) | apply Blk.alloc | apply Blk.drew | apply Blk.drewN | apply Blk.more | apply Blk.put | (apply Blk.far; focus (first | assumption | (apply Ne.symm; assumption) | (simp; done) | (simp <;> omega)))))) hb3
  try simp only [List.setIfInBounds_toArray, List.set_cons_zero, List.set_cons_succ] at B3_1
  obtain ⟨z3_1, c3_1, f3_1⟩ := id B3_1
  have B3_2 : Blk w3 (w.heap.size + 1 + 1) _ := Blk.below (by repeat (with_reducible (first | assumption | (apply Blk.at; simp; done) | apply Blk.alloc | apply Blk.drew | apply Blk.drewN | apply Blk.more | apply Blk.put | (apply Blk.far; focus (first | assumption | (apply Ne.symm; assumption) | (simp; done) | (simp <;> omega)))))) hb3
  obtain ⟨z3_2, c3_2, f3_2⟩ := id B3_2
  have B3_3 : Blk w3 (w.heap.size + 1 + 1 + 1) _ := Blk.below (by repeat (with_reducible (first | assumption | (apply Blk.at; simp; done) | apply Blk.alloc | apply Blk.drew | apply Blk.drewN | apply Blk.more | apply Blk.put | (apply Blk.far; focus (first | assumption | (apply Ne.symm; assumption) | (simp; done) | (simp <;> omega)))))) hb3
  try simp only [List.setIfInBounds_toArray, List.set_cons_zero, List.set_cons_succ] at B3_3
  obtain ⟨z3_3, c3_3, f3_3⟩ := id B3_3
  go_wp2_with fail
  refine (right_c _ _ _ _ _).mono ?_
  rintro e w4 ⟨rfl, hb4⟩
  have B4_0 : Blk w4 (w.heap.size) _ := Blk.below (by repeat (with_reducible (first | assumption | (apply Blk.at; simp; done) | apply Blk.alloc | apply Blk.drew | apply Blk.drewN | apply Blk.more | apply Blk.put | (apply Blk.far; focus (first | assumption | (apply Ne.symm; assumption) | (simp; done) | (simp <;> omega)))))) hb4
  obtain ⟨z4_0, c4_0, f4_0⟩ := id B4_0
  have B4_1 : Blk w4 (w.heap.size + 1) _ := Blk.below (by repeat (with_reducible (first | assumption | (apply Blk.at; simp; done) | apply Blk.alloc | apply Blk.drew | apply Blk.drewN | apply Blk.more | apply Blk.put | (apply Blk.far; focus (first | assumption | (apply Ne.symm; assumption) | (simp; done) | (simp <;> omega)))))) hb4
  obtain ⟨z4_1, c4_1, f4_1⟩ := id B4_1
  have B4_2 : Blk w4 (w.heap.size + 1 + 1) _ := Blk.below (by repeat (with_reducible (first | assumption | (apply Blk.at; simp; done) | apply Blk.alloc | apply Blk.drew | apply Blk.drewN | apply Blk.more | apply Blk.put | (apply Blk.far; focus (first | assumption | (apply Ne.symm; assumption) | (simp; done) | (simp <;> omega)))))) hb4
  obtain ⟨z4_2, c4_2, f4_2⟩ := id B4_2
  have B4_3 : Blk w4 (w.heap.size + 1 + 1 + 1) _ := Blk.below (by repeat (with_reducible (first | assumption | (apply Blk.at; simp; done) | apply Blk.alloc | apply Blk.drew | apply Blk.drewN | apply Blk.more | apply Blk.put | (apply Blk.far; focus (first | assumption | (apply Ne.symm; assumption) | (simp; done) | (simp <;> omega)))))) hb4
  obtain ⟨z4_3, c4_3, f4_3⟩ := id B4_3
  go_wp2_with fail
  go_wp2_with fail
  refine (gt_l k x y z (clamp 65536000 p1) (clamp 65536000 p2) (clamp 65536000 p3) k' x' y' z' (clamp 65536000 q1) (clamp 65536000 q2) (clamp 65536000 q3) H1.out H2.out _).mono ?_
  rintro e w5 ⟨rfl, hb5⟩
  have B5_0 : Blk w5 (w.heap.size) _ := Blk.below (by repeat (with_reducible (first | assumption | (apply Blk.at; simp; done) | apply Blk.alloc | apply Blk.drew | apply Blk.drewN | apply Blk.more | apply Blk.put | (apply Blk.far; focus (first | assumption | (apply Ne.symm; assumption) | (simp; done) | (simp <;> omega)))))) hb5
  obtain ⟨z5_0, c5_0, f5_0⟩ := id B5_0
  have B5_1 : Blk w5 (w.heap.size + 1) _ := Blk.below (by repeat (with_reducible (first | assumption | (apply Blk.at; simp; done) | apply Blk.alloc | apply Blk.drew | apply Blk.drewN | apply Blk.more | apply Blk.put | (apply Blk.far; focus (first | assumption | (apply Ne.symm; assumption) | (simp; done) | (simp <;> omega)))))) hb5
  obtain ⟨z5_1, c5_1, f5_1⟩ := id B5_1
  have B5_2 : Blk w5 (w.heap.size + 1 + 1) _ := Blk.below (by repeat (with_reducible (first | assumption | (apply Blk.at; simp; done) | apply Blk.alloc | apply Blk.drew | apply Blk.drewN | apply Blk.more | apply Blk.put | (apply Blk.far; focus (first | assumption | (apply Ne.symm; assumption) | (simp; done) | (simp <;> omega)))))) hb5
  obtain ⟨z5_2, c5_2, f5_2⟩ := id B5_2
  have B5_3 : Blk w5 (w.heap.size + 1 + 1 + 1) _ := Blk.below (by repeat (with_reducible (first | assumption | (apply Blk.at; simp; done) | apply Blk.alloc | apply Blk.drew | apply Blk.drewN | apply Blk.more | apply Blk.put | (apply Blk.far; focus (first | assumption | (apply Ne.symm; assumption) | (simp; done) | (simp <;> omega)))))) hb5
  obtain ⟨z5_3, c5_3, f5_3⟩ := id B5_3
  go_wp2_with fail
  go_wp2_with fail
  refine (gt_s k x y z (clamp 65536000 p1) (clamp 65536000 p2) (clamp 65536000 p3) k' x' y' z' (clamp 65536000 q1) (clamp 65536000 q2) (clamp 65536000 q3) H1.out H2.out HK.out _).mono ?_
  rintro e w6 ⟨rfl, hb6⟩
  have B6_0 : Blk w6 (w.heap.size) _ := Blk.below (by repeat (with_reducible (first | assumption | (apply Blk.at; simp; done) | apply Blk.alloc | apply Blk.drew | apply Blk.drewN | apply Blk.more | apply Blk.put | (apply Blk.far; focus (first | assumption | (apply Ne.symm; assumption) | (simp; done) | (simp <;> omega)))))) hb6
  obtain ⟨z6_0, c6_0, f6_0⟩ := id B6_0
  have B6_1 : Blk w6 (w.heap.size + 1) _ := Blk.below (by repeat (with_reducible (first | assumption | (apply Blk.at; simp; done) | apply Blk.alloc | apply Blk.drew | apply Blk.drewN | apply Blk.more | apply Blk.put | (apply Blk.far; focus (first | assumption | (apply Ne.symm; assumption) | (simp; done) | (simp <;> omega)))))) hb6
  obtain ⟨z6_1, c6_1, f6_1⟩ := id B6_1
  have B6_2 : Blk w6 (w.heap.size + 1 + 1) _ := Blk.below (by repeat (with_reducible (first | assumption | (apply Blk.at; simp; done) | apply Blk.alloc | apply Blk.drew | apply Blk.drewN | apply Blk.more | apply Blk.put | (apply Blk.far; focus (first | assumption | (apply Ne.symm; assumption) | (simp; done) | (simp <;> omega)))))) hb6
  obtain ⟨z6_2, c6_2, f6_2⟩ := id B6_2
  have B6_3 : Blk w6 (w.heap.size + 1 + 1 + 1) _ := Blk.below (by repeat (with_reducible (first | assumption | (apply Blk.at; simp; done) | apply Blk.alloc | apply Blk.drew | apply Blk.drewN | apply Blk.more | apply Blk.put | (apply Blk.far; focus (first | assumption | (apply Ne.symm; assumption) | (simp; done) | (simp <;> omega)))))) hb6
  obtain ⟨z6_3, c6_3, f6_3⟩ := id B6_3
  have B6_4 : Blk w6 (w5.heap.size) _ := Blk.below (by repeat (with_reducible (first | assumption | (apply Blk.at; simp; done) | apply Blk.alloc | apply Blk.drew | apply Blk.drewN | apply Blk.more | apply Blk.put | (apply Blk.far; focus (first | assumption | (apply Ne.symm; assumption) | (simp; done) | (simp <;> omega)))))) hb6
  try simp only [List.setIfInBounds_toArray, List.set_cons_zero, List.set_cons_succ] at B6_4
  obtain ⟨z6_4, c6_4, f6_4⟩ := id B6_4
  go_wp2
  exact bodyPost_ret (v := .bool true) (by simp [results, Try.results13, go_sem, *]) rfl ⟨rfl, (by repeat (with_reducible (first | exact Below.refl _ _ | assumption | apply ext_drew | apply ext_drewN | apply ext_alloc | apply ext_more | (refine ext_setCell ?_ (by simp <;> omega) _) | (refine ext_below ?_ (by assumption)))))⟩

set_option maxHeartbeats 4000000 in
theorem tu3 (k x y z p1 p2 p3 k' x' y' z' q1 q2 q3 : Int) (s1 : shapeB k x y z = true) (s2 : shapeB k' x' y' z' = true) (HK : Hid (k ≠ k')) (hk : (k != k') = true) (w : World) : Calls Try.prog 13 #[.agg #[.int .i64 k, .int .i64 x, .int .i64 y, .int .i64 z], .agg #[.int .i64 p1, .int .i64 p2, .int .i64 p3], .agg #[.int .i64 k', .int .i64 x', .int .i64 y', .int .i64 z'], .agg #[.int .i64 q1, .int .i64 q2, .int .i64 q3]] w fun e w' => e = .returned (.bool true) ∧ Below w.heap.size w w' := by
  have hmc := more_cell
  have hmf := more_frozen
  have hml := more_lt
  have H1 := Lib.hid s1
  have H2 := Lib.hid s2
  obtain ⟨⟨u1, u2⟩, ⟨u3, u4⟩, u5, u6⟩ := t_bd (touchT_wb k x y z (clamp 65536000 p1) (clamp 65536000 p2) (clamp 65536000 p3) k' x' y' z' (clamp 65536000 q1) (clamp 65536000 q2) (clamp 65536000 q3))
  go_enter Try.func13, Try.ntmps13
  go_wp2_with fail
  refine (touched_c _).mono ?_
  rintro e w1 ⟨rfl, hb1⟩
  have B1_0 : Blk w1 (w.heap.size) _ := Blk.below (by repeat (with_reducible (first | assumption | (apply Blk.at; simp; done) | apply Blk.alloc | apply Blk.drew | apply Blk.drewN | apply Blk.more | apply Blk.put | (apply Blk.far; focus (first | assumption | (apply Ne.symm; assumption) | (simp; done) | (simp <;> omega)))))) hb1
  obtain ⟨z1_0, c1_0, f1_0⟩ := id B1_0
  have B1_1 : Blk w1 (w.heap.size + 1) _ := Blk.below (by repeat (with_reducible (first | assumption | (apply Blk.at; simp; done) | apply Blk.alloc | apply Blk.drew | apply Blk.drewN | apply Blk.more | apply Blk.put | (apply Blk.far; focus (first | assumption | (apply Ne.symm; assumption) | (simp; done) | (simp <;> omega)))))) hb1
  obtain ⟨z1_1, c1_1, f1_1⟩ := id B1_1
  have B1_2 : Blk w1 (w.heap.size + 1 + 1) _ := Blk.below (by repeat (with_reducible (first | assumption | (apply Blk.at; simp; done) | apply Blk.alloc | apply Blk.drew | apply Blk.drewN | apply Blk.more | apply Blk.put | (apply Blk.far; focus (first | assumption | (apply Ne.symm; assumption) | (simp; done) | (simp <;> omega)))))) hb1
  obtain ⟨z1_2, c1_2, f1_2⟩ := id B1_2
  have B1_3 : Blk w1 (w.heap.size + 1 + 1 + 1) _ := Blk.below (by repeat (with_reducible (first | assumption | (apply Blk.at; simp; done) | apply Blk.alloc | apply Blk.drew | apply Blk.drewN | apply Blk.more | apply Blk.put | (apply Blk.far; focus (first | assumption | (apply Ne.symm; assumption) | (simp; done) | (simp <;> omega)))))) hb1
  obtain ⟨z1_3, c1_3, f1_3⟩ := id B1_3
  go_wp2_with fail
  refine region_quiet_but 4 (by kernel_rfl) (by kernel_rfl) ?_
  simp only [List.take_succ_cons, List.take_zero, List.drop_succ_cons, List.drop_zero]
  repeat (go_big_quiet_step ((go_at_call 70; exact calls_after (clamp_c _ _ _ 65536000 (by decide) _))))
  refine wpQuiet_nil ?_
  rintro w2 hw2
  have hb2 := after_below hw2
  clear hw2
  have B2_0 : Blk w2 (w.heap.size) _ := Blk.below (by repeat (with_reducible (first | assumption | (apply Blk.at; simp; done) | apply Blk.alloc | apply Blk.drew | apply Blk.drewN | apply Blk.more | apply Blk.put | (apply Blk.far; focus (first | assumption | (apply Ne.symm; assumption) | (simp; done) | (simp <;> omega)))))) hb2
  obtain ⟨z2_0, c2_0, f2_0⟩ := id B2_0
  have B2_1 : Blk w2 (w.heap.size + 1) _ := Blk.below (by repeat (with_reducible (first | assumption | (apply Blk.at; simp; done) | apply Blk.alloc | apply Blk.drew | apply Blk.drewN | apply Blk.more | apply Blk.put | (apply Blk.far; focus (first | assumption | (apply Ne.symm; assumption) | (simp; done) | (simp <;> omega)))))) hb2
  obtain ⟨z2_1, c2_1, f2_1⟩ := id B2_1
  have B2_2 : Blk w2 (w.heap.size + 1 + 1) _ := Blk.below (by repeat (with_reducible (first | assumption | (apply Blk.at; simp; done) | apply Blk.alloc | apply Blk.drew | apply Blk.drewN | apply Blk.more | apply Blk.put | (apply Blk.far; focus (first | assumption | (apply Ne.symm; assumption) | (simp; done) | (simp <;> omega)))))) hb2
  obtain ⟨z2_2, c2_2, f2_2⟩ := id B2_2
  have B2_3 : Blk w2 (w.heap.size + 1 + 1 + 1) _ := Blk.below (by repeat (with_reducible (first | assumption | (apply Blk.at; simp; done) | apply Blk.alloc | apply Blk.drew | apply Blk.drewN | apply Blk.more | apply Blk.put | (apply Blk.far; focus (first | assumption | (apply Ne.symm; assumption) | (simp; done) | (simp <;> omega)))))) hb2
  obtain ⟨z2_3, c2_3, f2_3⟩ := id B2_3
  go_wp2_with fail
  refine (right_c _ _ _ _ _).mono ?_
  rintro e w3 ⟨rfl, hb3⟩
  have B3_0 : Blk w3 (w.heap.size) _ := Blk.below (by repeat (with_reducible (first | assumption | (apply Blk.at; simp; done) | apply Blk.alloc | apply Blk.drew | apply Blk.drewN | apply Blk.more | apply Blk.put | (apply Blk.far; focus (first | assumption | (apply Ne.symm; assumption) | (simp; done) | (simp <;> omega)))))) hb3
  obtain ⟨z3_0, c3_0, f3_0⟩ := id B3_0
  have B3_1 : Blk w3 (w.heap.size + 1) _ := Blk.below (by repeat (with_reducible (first | assumption | (apply Blk.at; simp; done) | apply Blk.alloc | apply Blk.drew | apply Blk.drewN | apply Blk.more | apply Blk.put | (apply Blk.far; focus (first | assumption | (apply Ne.symm; assumption) | (simp; done) | (simp <;> omega)))))) hb3
  try simp only [List.setIfInBounds_toArray, List.set_cons_zero, List.set_cons_succ] at B3_1
  obtain ⟨z3_1, c3_1, f3_1⟩ := id B3_1
  have B3_2 : Blk w3 (w.heap.size + 1 + 1) _ := Blk.below (by repeat (with_reducible (first | assumption | (apply Blk.at; simp; done) | apply Blk.alloc | apply Blk.drew | apply Blk.drewN | apply Blk.more | apply Blk.put | (apply Blk.far; focus (first | assumption | (apply Ne.symm; assumption) | (simp; done) | (simp <;> omega)))))) hb3
  obtain ⟨z3_2, c3_2, f3_2⟩ := id B3_2
  have B3_3 : Blk w3 (w.heap.size + 1 + 1 + 1) _ := Blk.below (by repeat (with_reducible (first | assumption | (apply Blk.at; simp; done) | apply Blk.alloc | apply Blk.drew | apply Blk.drewN | apply Blk.more | apply Blk.put | (apply Blk.far; focus (first | assumption | (apply Ne.symm; assumption) | (simp; done) | (simp <;> omega)))))) hb3
  try simp only [List.setIfInBounds_toArray, List.set_cons_zero, List.set_cons_succ] at B3_3
  obtain ⟨z3_3, c3_3, f3_3⟩ := id B3_3
  go_wp2_with fail
  refine (right_c _ _ _ _ _).mono ?_
  rintro e w4 ⟨rfl, hb4⟩
  have B4_0 : Blk w4 (w.heap.size) _ := Blk.below (by repeat (with_reducible (first | assumption | (apply Blk.at; simp; done) | apply Blk.alloc | apply Blk.drew | apply Blk.drewN | apply Blk.more | apply Blk.put | (apply Blk.far; focus (first | assumption | (apply Ne.symm; assumption) | (simp; done) | (simp <;> omega)))))) hb4
  obtain ⟨z4_0, c4_0, f4_0⟩ := id B4_0
  have B4_1 : Blk w4 (w.heap.size + 1) _ := Blk.below (by repeat (with_reducible (first | assumption | (apply Blk.at; simp; done) | apply Blk.alloc | apply Blk.drew | apply Blk.drewN | apply Blk.more | apply Blk.put | (apply Blk.far; focus (first | assumption | (apply Ne.symm; assumption) | (simp; done) | (simp <;> omega)))))) hb4
  obtain ⟨z4_1, c4_1, f4_1⟩ := id B4_1
  have B4_2 : Blk w4 (w.heap.size + 1 + 1) _ := Blk.below (by repeat (with_reducible (first | assumption | (apply Blk.at; simp; done) | apply Blk.alloc | apply Blk.drew | apply Blk.drewN | apply Blk.more | apply Blk.put | (apply Blk.far; focus (first | assumption | (apply Ne.symm; assumption) | (simp; done) | (simp <;> omega)))))) hb4
  obtain ⟨z4_2, c4_2, f4_2⟩ := id B4_2
  have B4_3 : Blk w4 (w.heap.size + 1 + 1 + 1) _ := Blk.below (by repeat (with_reducible (first | assumption | (apply Blk.at; simp; done) | apply Blk.alloc | apply Blk.drew | apply Blk.drewN | apply Blk.more | apply Blk.put | (apply Blk.far; focus (first | assumption | (apply Ne.symm; assumption) | (simp; done) | (simp <;> omega)))))) hb4
  obtain ⟨z4_3, c4_3, f4_3⟩ := id B4_3
  go_wp2_with fail
  go_wp2_with fail
  refine (gt_l k x y z (clamp 65536000 p1) (clamp 65536000 p2) (clamp 65536000 p3) k' x' y' z' (clamp 65536000 q1) (clamp 65536000 q2) (clamp 65536000 q3) H1.out H2.out _).mono ?_
  rintro e w5 ⟨rfl, hb5⟩
  have B5_0 : Blk w5 (w.heap.size) _ := Blk.below (by repeat (with_reducible (first | assumption | (apply Blk.at; simp; done) | apply Blk.alloc | apply Blk.drew | apply Blk.drewN | apply Blk.more | apply Blk.put | (apply Blk.far; focus (first | assumption | (apply Ne.symm; assumption) | (simp; done) | (simp <;> omega)))))) hb5
  obtain ⟨z5_0, c5_0, f5_0⟩ := id B5_0
  have B5_1 : Blk w5 (w.heap.size + 1) _ := Blk.below (by repeat (with_reducible (first | assumption | (apply Blk.at; simp; done) | apply Blk.alloc | apply Blk.drew | apply Blk.drewN | apply Blk.more | apply Blk.put | (apply Blk.far; focus (first | assumption | (apply Ne.symm; assumption) | (simp; done) | (simp <;> omega)))))) hb5
  obtain ⟨z5_1, c5_1, f5_1⟩ := id B5_1
  have B5_2 : Blk w5 (w.heap.size + 1 + 1) _ := Blk.below (by repeat (with_reducible (first | assumption | (apply Blk.at; simp; done) | apply Blk.alloc | apply Blk.drew | apply Blk.drewN | apply Blk.more | apply Blk.put | (apply Blk.far; focus (first | assumption | (apply Ne.symm; assumption) | (simp; done) | (simp <;> omega)))))) hb5
  obtain ⟨z5_2, c5_2, f5_2⟩ := id B5_2
  have B5_3 : Blk w5 (w.heap.size + 1 + 1 + 1) _ := Blk.below (by repeat (with_reducible (first | assumption | (apply Blk.at; simp; done) | apply Blk.alloc | apply Blk.drew | apply Blk.drewN | apply Blk.more | apply Blk.put | (apply Blk.far; focus (first | assumption | (apply Ne.symm; assumption) | (simp; done) | (simp <;> omega)))))) hb5
  obtain ⟨z5_3, c5_3, f5_3⟩ := id B5_3
  go_wp2_with fail
  go_wp2_with fail
  refine (gt_m k x y z (clamp 65536000 p1) (clamp 65536000 p2) (clamp 65536000 p3) k' x' y' z' (clamp 65536000 q1) (clamp 65536000 q2) (clamp 65536000 q3) H1.out H2.out HK.out _).mono ?_
  rintro e w6 ⟨rfl, hb6⟩
  have B6_0 : Blk w6 (w.heap.size) _ := Blk.below (by repeat (with_reducible (first | assumption | (apply Blk.at; simp; done) | apply Blk.alloc | apply Blk.drew | apply Blk.drewN | apply Blk.more | apply Blk.put | (apply Blk.far; focus (first | assumption | (apply Ne.symm; assumption) | (simp; done) | (simp <;> omega)))))) hb6
  obtain ⟨z6_0, c6_0, f6_0⟩ := id B6_0
  have B6_1 : Blk w6 (w.heap.size + 1) _ := Blk.below (by repeat (with_reducible (first | assumption | (apply Blk.at; simp; done) | apply Blk.alloc | apply Blk.drew | apply Blk.drewN | apply Blk.more | apply Blk.put | (apply Blk.far; focus (first | assumption | (apply Ne.symm; assumption) | (simp; done) | (simp <;> omega)))))) hb6
  obtain ⟨z6_1, c6_1, f6_1⟩ := id B6_1
  have B6_2 : Blk w6 (w.heap.size + 1 + 1) _ := Blk.below (by repeat (with_reducible (first | assumption | (apply Blk.at; simp; done) | apply Blk.alloc | apply Blk.drew | apply Blk.drewN | apply Blk.more | apply Blk.put | (apply Blk.far; focus (first | assumption | (apply Ne.symm; assumption) | (simp; done) | (simp <;> omega)))))) hb6
  obtain ⟨z6_2, c6_2, f6_2⟩ := id B6_2
  have B6_3 : Blk w6 (w.heap.size + 1 + 1 + 1) _ := Blk.below (by repeat (with_reducible (first | assumption | (apply Blk.at; simp; done) | apply Blk.alloc | apply Blk.drew | apply Blk.drewN | apply Blk.more | apply Blk.put | (apply Blk.far; focus (first | assumption | (apply Ne.symm; assumption) | (simp; done) | (simp <;> omega)))))) hb6
  obtain ⟨z6_3, c6_3, f6_3⟩ := id B6_3
  have B6_4 : Blk w6 (w5.heap.size) _ := Blk.below (by repeat (with_reducible (first | assumption | (apply Blk.at; simp; done) | apply Blk.alloc | apply Blk.drew | apply Blk.drewN | apply Blk.more | apply Blk.put | (apply Blk.far; focus (first | assumption | (apply Ne.symm; assumption) | (simp; done) | (simp <;> omega)))))) hb6
  try simp only [List.setIfInBounds_toArray, List.set_cons_zero, List.set_cons_succ] at B6_4
  obtain ⟨z6_4, c6_4, f6_4⟩ := id B6_4
  go_wp2
  exact bodyPost_ret (v := .bool true) (by simp [results, Try.results13, go_sem, *]) rfl ⟨rfl, (by repeat (with_reducible (first | exact Below.refl _ _ | assumption | apply ext_drew | apply ext_drewN | apply ext_alloc | apply ext_more | (refine ext_setCell ?_ (by simp <;> omega) _) | (refine ext_below ?_ (by assumption)))))⟩

theorem geomTurned_w (k x y z p1 p2 p3 k' x' y' z' q1 q2 q3 : Int) (w : World) : Calls Try.prog 13 #[.agg #[.int .i64 k, .int .i64 x, .int .i64 y, .int .i64 z], .agg #[.int .i64 p1, .int .i64 p2, .int .i64 p3], .agg #[.int .i64 k', .int .i64 x', .int .i64 y', .int .i64 z'], .agg #[.int .i64 q1, .int .i64 q2, .int .i64 q3]] w fun e w' => e = .returned (.bool true) ∧ Below w.heap.size w w' := by
  by_cases s1 : shapeB k x y z = true
  · by_cases s2 : shapeB k' x' y' z' = true
    · by_cases hk : k = k'
      · exact tu2 k x y z p1 p2 p3 k' x' y' z' q1 q2 q3 s1 s2 hk (by simpa using hk) w
      · exact tu3 k x y z p1 p2 p3 k' x' y' z' q1 q2 q3 s1 s2 hk (by simpa using hk) w
    · exact tu1 k x y z p1 p2 p3 k' x' y' z' q1 q2 q3 s1 (by simpa using s2) w
  · exact tu0 k x y z p1 p2 p3 k' x' y' z' q1 q2 q3 (by simpa using s1) w

set_option maxRecDepth 100000 in
theorem geomTurned_lifted (os : Os) (started : os.Started) (H : Type) (enc : TypeId × Value → H) :
    ReturnsInHanded {} Try.checked os 13 .any (Rows.geomTurnedSpec.pre6 enc Try.prog Try.f13 Rows.geomTurnedRow.domain false) (Rows.geomTurnedSpec.post enc Try.prog Try.f13 false true false false) := by
  refine returnsInHanded_of_change (C := Try.checked) own started (by kernel_rfl) Try.func13
    (ChangeSpec.witness6 (enc := enc) (C := Try.checked) false ⟨#[], #[.agg #[.int .i64 0, .int .i64 0, .int .i64 0, .int .i64 0], .agg #[.int .i64 0, .int .i64 0, .int .i64 0], .agg #[.int .i64 0, .int .i64 0, .int .i64 0, .int .i64 0], .agg #[.int .i64 0, .int .i64 0, .int .i64 0]], []⟩ 8 (by kernel_rfl) (by kernel_rfl) (by kernel_rfl) (by kernel_rfl)) ?_
  intro W base args ds gs before hval0 hW hcnd _
  have hval : ∀ (j : Nat) t v, Try.f13.params[j]? = some t → args[j]? = some v → Value.okWide Try.prog W .any base t v := hval0
  obtain ⟨p, q, hA0, _⟩ := id hW
  have hsz := (trodAll_length _ _ _ _ hA0).1
  obtain ⟨v0, v1, v2, v3, rfl⟩ : ∃ v0 v1 v2 v3, args = #[v0, v1, v2, v3] := by
    rcases args with ⟨_ | ⟨v0, _ | ⟨v1, _ | ⟨v2, _ | ⟨v3, _ | ⟨v4, l⟩⟩⟩⟩⟩⟩ <;> first | exact ⟨v0, v1, v2, v3, rfl⟩ | (simp [Try.params13] at hsz)
  obtain ⟨l0, e0, rfl, b0⟩ := agg_of_ok 4 Try.underlying3 Try.underlying25 (by kernel_rfl) (by kernel_rfl) (hval 0 25 v0 (by rw [Try.params13]; rfl) rfl)
  obtain ⟨a0_0, a0_1, a0_2, a0_3, rfl⟩ := list4 l0 e0
  obtain ⟨l1, e1, rfl, b1⟩ := agg_of_ok 3 Try.underlying3 Try.underlying23 (by kernel_rfl) (by kernel_rfl) (hval 1 23 v1 (by rw [Try.params13]; rfl) rfl)
  obtain ⟨a1_0, a1_1, a1_2, rfl⟩ := list3 l1 e1
  obtain ⟨l2, e2, rfl, b2⟩ := agg_of_ok 4 Try.underlying3 Try.underlying25 (by kernel_rfl) (by kernel_rfl) (hval 2 25 v2 (by rw [Try.params13]; rfl) rfl)
  obtain ⟨a2_0, a2_1, a2_2, a2_3, rfl⟩ := list4 l2 e2
  obtain ⟨l3, e3, rfl, b3⟩ := agg_of_ok 3 Try.underlying3 Try.underlying23 (by kernel_rfl) (by kernel_rfl) (hval 3 23 v3 (by rw [Try.params13]; rfl) rfl)
  obtain ⟨a3_0, a3_1, a3_2, rfl⟩ := list3 l3 e3
  refine (geomTurned_w a0_0 a0_1 a0_2 a0_3 a1_0 a1_1 a1_2 a2_0 a2_1 a2_2 a2_3 a3_0 a3_1 a3_2 W).mono fun e W' ⟨he, hb⟩ => ⟨_, he, ?_⟩
  exact law_post laid (by kernel_rfl) (by kernel_rfl) Try.underlying4 rfl (fun ds h => by match ds, h with | [d0, d1, d2, d3], _ => rfl) hW hb

theorem geomTurned_over : Rows.geomTurnedRow.holds Try.pinned (OpenSpec.ofChange Rows.geomTurnedSpec) :=
  OpenClaim.holds_of_wide 13 Try.f13 rfl rfl rfl rfl rfl rfl rfl ⟨rfl, rfl, rfl, rfl, rfl⟩ rfl rfl rfl rfl rfl (by kernel_rfl) Try.func13 (by kernel_rfl)
    (of_decide_eq_true (by kernel_rfl)) (by unfold Func.isWrapper; first | (rw [if_pos (by decide +kernel)]; kernel_rfl) | (rw [if_neg (by decide +kernel)]; exact ⟨rfl, rfl⟩))
    (fun os started H enc _ => geomTurned_lifted os started H enc)

theorem geomTurned_holds : Rows.GeomTurnedSaid := geomTurned_over
#print axioms geomTurned_holds
end Go.Proofs.Ytfagkbmphohelaa
